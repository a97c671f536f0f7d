/-
  IP: the walk of the law on where each part of a packet stands.
-/
import Derived.Test.YthjpdaflgphbbaaDoorIpCt
import Derived.Test.YthjpdaflgphbbaaDoorIpR
import Derived.Deep.QuietTactic
import Derived.Test.YthjpdaflgphbbaaDoorLex
set_option linter.unusedVariables false
namespace Go.Proofs.YthjpdaflgphbbaaDoor
open Go.RowKit

theorem fl_bits : ∀ (wh mo : Bool) (t : Nat), t < 32 → (bits .and .u8 (((if wh then 64 else 0) + (if mo then 32 else 0) + t : Nat) : Int) 64 != 0) = wh ∧ (bits .and .u8 (((if wh then 64 else 0) + (if mo then 32 else 0) + t : Nat) : Int) 32 != 0) = mo ∧ (bits .and .u8 (((if wh then 64 else 0) + (if mo then 32 else 0) + t : Nat) : Int) 128 == 0) = true := by decide +kernel
theorem over_draws {w : World} {n : Nat} {F : World → Prop} (h : ∀ W, W = w.drewN n → F W) : F (w.drewN n) := h _ rfl
def byte_ (x : Int) : Prop := 0 ≤ x ∧ x < 256
structure EncB (p : Pk) (v0 v2 v3 v4 v5 v6 v7 f0 f1 f2 f3 t0 t1 t2 t3 : Int) : Prop where
  h0 : v0 / 16 = 4 ∧ v0 % 16 * 4 = sizeP p.op.length ∧ byte_ v0
  h2 : v2 * 256 + v3 = (sizeP p.op.length + p.da.length : Nat) ∧ byte_ v2 ∧ byte_ v3
  h4 : v4 * 256 + v5 = p.id ∧ byte_ v4 ∧ byte_ v5
  h6 : (v6 * 256 + v7) % 8192 * 8 = p.off ∧ byte_ v6 ∧ byte_ v7
  b64 : (bits .and .u8 v6 64 != 0) = p.wh
  b32 : (bits .and .u8 v6 32 != 0) = p.mo
  b128 : (bits .and .u8 v6 128 == 0) = true
  hf : f0 * 16777216 + f1 * 65536 + f2 * 256 + f3 = p.fr ∧ byte_ f0 ∧ byte_ f1 ∧ byte_ f2 ∧ byte_ f3
  ht : t0 * 16777216 + t1 * 65536 + t2 * 256 + t3 = p.to_ ∧ byte_ t0 ∧ byte_ t1 ∧ byte_ t2 ∧ byte_ t3
theorem enc_cells (p : Pk) (ok : OkP p) (hfr : p.fr < 4294967296) (hto : p.to_ < 4294967296) : ∃ (v0 v2 v3 v4 v5 v6 v7 x y f0 f1 f2 f3 t0 t1 t2 t3 : Int) (r : List Value), EncB p v0 v2 v3 v4 v5 v6 v7 f0 f1 f2 f3 t0 t1 t2 t3 ∧
    Lib.byteCells (encP p) = [.int .u8 v0, .int .u8 p.sv, .int .u8 v2, .int .u8 v3, .int .u8 v4, .int .u8 v5, .int .u8 v6, .int .u8 v7, .int .u8 p.lf, .int .u8 p.pr, .int .u8 x, .int .u8 y, .int .u8 f0, .int .u8 f1, .int .u8 f2, .int .u8 f3, .int .u8 t0, .int .u8 t1, .int .u8 t2, .int .u8 t3] ++ r := by
  obtain ⟨z1, z2, z3⟩ := size_facts p ok
  have hS : sumB (hdr p 0) ≤ 65535 := by unfold sumB; omega
  have hoff := ok.off
  have ho8 := ok.o8
  have hid := ok.id
  obtain ⟨fm, fl⟩ := flA_mod p.wh p.mo
  have hF : flP p = flA p.wh 16384 + flA p.mo 8192 + (p.off / 8).toNat := rfl
  have hF2 : flP p ≤ 65535 := by omega
  have hlen := ok.len
  have e0 := beB_one ((64 + sizeP p.op.length / 4 : Nat) : Int) (by omega) (by omega)
  have e1 := beB_one p.sv ok.sv.1 ok.sv.2
  have e2 := beB_two ((sizeP p.op.length + p.da.length : Nat) : Int) (by omega) (by omega)
  have e4 := beB_two p.id hid.1 hid.2
  have e6 := beB_two ((flP p : Nat) : Int) (by omega) (by omega)
  have e8 := beB_one p.lf ok.lf.1 ok.lf.2
  have e9 := beB_one p.pr ok.pr.1 ok.pr.2
  have e10 := beB_two ((sumB (hdr p 0) : Nat) : Int) (by omega) (by omega)
  have e12 := beB_four ((p.fr : Nat) : Int) (by omega) (by omega)
  have e16 := beB_four ((p.to_ : Nat) : Int) (by omega) (by omega)
  rw [Int.toNat_natCast] at e0 e2 e6 e10 e12 e16
  have hv6 : ((flP p : Nat) : Int) / 256 = (((if p.wh then 64 else 0) + (if p.mo then 32 else 0) + (p.off / 8).toNat / 256 : Nat) : Int) := by
    rw [hF]; unfold flA; cases p.wh <;> cases p.mo <;> simp <;> omega
  obtain ⟨q1, q2, q3⟩ := fl_bits p.wh p.mo ((p.off / 8).toNat / 256) (by omega)
  rw [← hv6] at q1 q2 q3
  have hE : encP p = hdr p (sumB (hdr p 0)) ++ p.da := rfl
  rw [hE]
  generalize sumB (hdr p 0) = S at *
  refine ⟨((64 + sizeP p.op.length / 4 : Nat) : Int), ((sizeP p.op.length + p.da.length : Nat) : Int) / 256, ((sizeP p.op.length + p.da.length : Nat) : Int) % 256, p.id / 256, p.id % 256, ((flP p : Nat) : Int) / 256, ((flP p : Nat) : Int) % 256, ((S : Nat) : Int) / 256, ((S : Nat) : Int) % 256,
    (p.fr : Int) / 16777216, (p.fr : Int) / 65536 % 256, (p.fr : Int) / 256 % 256, (p.fr : Int) % 256, (p.to_ : Int) / 16777216, (p.to_ : Int) / 65536 % 256, (p.to_ : Int) / 256 % 256, (p.to_ : Int) % 256, Lib.byteCells p.op ++ Lib.byteCells (List.replicate (sizeP p.op.length - 20 - p.op.length) 0) ++ Lib.byteCells p.da, ⟨?_, ?_, ?_, ?_, q1, q2, q3, ?_, ?_⟩, ?_⟩
  case refine_7 =>
    simp only [hdr, hd1, hd2, byteCells_app, e0, e1, e2, e4, e6, e8, e9, e10, e12, e16]
    simp
  all_goals unfold byte_
  all_goals omega
set_option maxHeartbeats 20000000 in
set_option maxRecDepth 10000 in
theorem ipPlaces_walk (w : World) (p : Pk) (o d : Value) (h : AnyPk w p o d) (hE : Env w) : Calls Tryd.prog 6 #[.agg (p.cs o d).toArray] w fun e w' => e = .returned (.bool true) ∧ Below w.heap.size w w' := by
  have HE := Lib.hid hE; clear hE
  have B0 := Lib.hid (al (rf w) (.cells (p.cs o d).toArray 26))
  have HB := Lib.hid (Blk.new w 26 (p.cs o d).toArray)
  have HB2 := Lib.hid HB.out
  have HA := Lib.hid h
  have HL := Lib.hid (longC _ p o d (⟨h.o.imp fun A ⟨c, h1, h2, h3⟩ => ⟨c, h1, h2.nx B0.out, h3⟩, h.d.imp fun A ⟨c, h1, h2, h3⟩ => ⟨c, h1, h2.nx B0.out, h3⟩, h.off, h.fr, h.to_, h.ol, h.dl⟩ : AnyPk (w.alloc (.cells (p.cs o d).toArray 26)) p o d))
  obtain ⟨⟨A, c, rfl, hb1, hc1⟩, ⟨B, e, rfl, hb2, hc2⟩, _, _, _, _, _⟩ := h
  have HDD := Lib.hid hb2
  clear hb1 hb2
  by_cases hlg : 70000 < p.da.length ∨ 4000 < p.op.length
  · have hv : (decide (70000 < p.da.length) || decide (4000 < p.op.length)) = true := by rcases hlg with h | h <;> simp [h]
    rw [hv] at HL
    unfold Pk.cs at HB
    go_enter Tryd.func6, Tryd.ntmps6
    go_wp2_with ((with_reducible refine wpList_load_blk rfl 26 1 rfl w.heap.size 0 11 (by kernel_rfl) 26 _ (p.cs (.slice A p.op.length c) (.slice B p.da.length e)) HB2.out (by kernel_rfl) _ Tryd.underlying26 (by kernel_rfl) (by kernel_rfl) ?_))
    refine HL.out.mono ?_
    rintro e1 w1 ⟨rfl, b1⟩
    go_wp2
    go_ret
    exact ⟨rfl, nx B0.out b1⟩
  · have hv : (decide (70000 < p.da.length) || decide (4000 < p.op.length)) = false := by simp; omega
    have HP := Lib.hid (HA.out.is (by omega) (by omega))
    rw [hv] at HL
    clear hv hlg HA
    unfold Pk.cs at HB
    go_enter Tryd.func6, Tryd.ntmps6
    go_wp2_with ((with_reducible refine wpList_load_blk rfl 26 1 rfl w.heap.size 0 11 (by kernel_rfl) 26 _ (p.cs (.slice A p.op.length c) (.slice B p.da.length e)) HB2.out (by kernel_rfl) _ Tryd.underlying26 (by kernel_rfl) (by kernel_rfl) ?_))
    refine HL.out.mono ?_
    rintro e1 w1 ⟨rfl, b1⟩
    have B1 := Lib.hid (nx B0.out b1)
    have HB1 := Lib.hid (HB2.out.nx b1)
    clear b1 HB HB2 HL B0
    go_wp2_with ((with_reducible refine wpList_load_blk rfl 26 1 rfl w.heap.size 0 11 (by kernel_rfl) 26 _ (p.cs (.slice A p.op.length c) (.slice B p.da.length e)) HB1.out (by kernel_rfl) _ Tryd.underlying26 (by kernel_rfl) (by kernel_rfl) ?_))
    refine (encC w1 p _ _ (HP.out.nx B1.out)).mono ?_
    rintro e2 w2 (⟨hm, v, rfl, own, b2⟩ | ⟨hm, rfl, b2⟩)
    · have OK := Lib.hid (okP_of hm)
      have B2 := Lib.hid (nx B1.out b2)
      obtain ⟨A2, c2, rfl⟩ := own_slice own
      have hsz := size_facts p OK.out
      have hlen := encP_len p
      have hle := OK.out.len
      have Y := Lib.hid (Bytes.own own)
      have hcap : (encP p).length ≤ c2 := by
        obtain ⟨g, cap, hv, _, _, h1, _⟩ := own_form own (by omega)
        injection hv with _ _ h2
        omega
      obtain ⟨v0, v2, v3, v4, v5, v6, v7, x, y, f0, f1, f2, f3, t0, t1, t2, t3, rr, EB, hcells⟩ := enc_cells p OK.out HP.out.fr HP.out.to_
      have hdrop : (encP p).drop (sizeP p.op.length) = p.da := by
        unfold encP
        rw [List.drop_left' (by rw [hdr_len])]
      obtain ⟨g, cap, hv, hgb, hgl, _, _, cur, hbk, _, htk⟩ := own_form own (by omega)
      injection hv with hv1 hv2 hv3
      subst hv1 hv3
      have k0 : w2.cell? ⟨g, 0, none⟩ = some (.int .u8 (v0)) := (take_cell hbk htk (by omega)).trans (by rw [hcells]; rfl)
      have k1 : w2.cell? ⟨g, 1, none⟩ = some (.int .u8 (p.sv)) := (take_cell hbk htk (by omega)).trans (by rw [hcells]; rfl)
      have k2 : w2.cell? ⟨g, 2, none⟩ = some (.int .u8 (v2)) := (take_cell hbk htk (by omega)).trans (by rw [hcells]; rfl)
      have k3 : w2.cell? ⟨g, 3, none⟩ = some (.int .u8 (v3)) := (take_cell hbk htk (by omega)).trans (by rw [hcells]; rfl)
      have k4 : w2.cell? ⟨g, 4, none⟩ = some (.int .u8 (v4)) := (take_cell hbk htk (by omega)).trans (by rw [hcells]; rfl)
      have k5 : w2.cell? ⟨g, 5, none⟩ = some (.int .u8 (v5)) := (take_cell hbk htk (by omega)).trans (by rw [hcells]; rfl)
      have k6 : w2.cell? ⟨g, 6, none⟩ = some (.int .u8 (v6)) := (take_cell hbk htk (by omega)).trans (by rw [hcells]; rfl)
      have k7 : w2.cell? ⟨g, 7, none⟩ = some (.int .u8 (v7)) := (take_cell hbk htk (by omega)).trans (by rw [hcells]; rfl)
      have k8 : w2.cell? ⟨g, 8, none⟩ = some (.int .u8 (p.lf)) := (take_cell hbk htk (by omega)).trans (by rw [hcells]; rfl)
      have k9 : w2.cell? ⟨g, 9, none⟩ = some (.int .u8 (p.pr)) := (take_cell hbk htk (by omega)).trans (by rw [hcells]; rfl)
      have k10 : w2.cell? ⟨g, 10, none⟩ = some (.int .u8 (x)) := (take_cell hbk htk (by omega)).trans (by rw [hcells]; rfl)
      have k11 : w2.cell? ⟨g, 11, none⟩ = some (.int .u8 (y)) := (take_cell hbk htk (by omega)).trans (by rw [hcells]; rfl)
      have k12 : w2.cell? ⟨g, 12, none⟩ = some (.int .u8 (f0)) := (take_cell hbk htk (by omega)).trans (by rw [hcells]; rfl)
      have k13 : w2.cell? ⟨g, 13, none⟩ = some (.int .u8 (f1)) := (take_cell hbk htk (by omega)).trans (by rw [hcells]; rfl)
      have k14 : w2.cell? ⟨g, 14, none⟩ = some (.int .u8 (f2)) := (take_cell hbk htk (by omega)).trans (by rw [hcells]; rfl)
      have k15 : w2.cell? ⟨g, 15, none⟩ = some (.int .u8 (f3)) := (take_cell hbk htk (by omega)).trans (by rw [hcells]; rfl)
      have k16 : w2.cell? ⟨g, 16, none⟩ = some (.int .u8 (t0)) := (take_cell hbk htk (by omega)).trans (by rw [hcells]; rfl)
      have k17 : w2.cell? ⟨g, 17, none⟩ = some (.int .u8 (t1)) := (take_cell hbk htk (by omega)).trans (by rw [hcells]; rfl)
      have k18 : w2.cell? ⟨g, 18, none⟩ = some (.int .u8 (t2)) := (take_cell hbk htk (by omega)).trans (by rw [hcells]; rfl)
      have k19 : w2.cell? ⟨g, 19, none⟩ = some (.int .u8 (t3)) := (take_cell hbk htk (by omega)).trans (by rw [hcells]; rfl)
      have HB2' := Lib.hid (HB1.out.nx b2)
      have s0 : w2.cell? ⟨w.heap.size, 0, none⟩ = some (.int .i64 p.sv) := HB2'.out.cell 0
      have s1 : w2.cell? ⟨w.heap.size, 1, none⟩ = some (.int .i64 p.id) := HB2'.out.cell 1
      have s2 : w2.cell? ⟨w.heap.size, 2, none⟩ = some (.bool p.wh) := HB2'.out.cell 2
      have s3 : w2.cell? ⟨w.heap.size, 3, none⟩ = some (.bool p.mo) := HB2'.out.cell 3
      have s4 : w2.cell? ⟨w.heap.size, 4, none⟩ = some (.int .i64 p.off) := HB2'.out.cell 4
      have s5 : w2.cell? ⟨w.heap.size, 5, none⟩ = some (.int .i64 p.lf) := HB2'.out.cell 5
      have s6 : w2.cell? ⟨w.heap.size, 6, none⟩ = some (.int .i64 p.pr) := HB2'.out.cell 6
      have s7 : w2.cell? ⟨w.heap.size, 7, none⟩ = some (.int .u32 p.fr) := HB2'.out.cell 7
      have s8 : w2.cell? ⟨w.heap.size, 8, none⟩ = some (.int .u32 p.to_) := HB2'.out.cell 8
      have s10 : w2.cell? ⟨w.heap.size, 10, none⟩ = some (.slice B p.da.length e) := HB2'.out.cell 10
      have HCE := Lib.hid hcells
      clear own b2 hm HB1 hbk htk hcells
      generalize encP p = L at *
      obtain ⟨⟨u0, u1, u2, u3⟩, ⟨a2, a3, a4⟩, ⟨a5, a6, a7⟩, ⟨a8, a9, a10⟩, c64, c32, c128, ⟨d1, d2, d3, d4, d5⟩, ⟨d6, d7, d8, d9, d10⟩⟩ := EB
      unfold byte_ at *
      rw [← hlen] at a2
      generalize sizeP p.op.length = z at *
      obtain ⟨m, hm⟩ : ∃ m, m = L.length := ⟨_, rfl⟩
      have HMM := Lib.hid hm
      rw [← hm] at hlen hcap a2 ⊢
      clear hm
      have i1 : ¬ (m : Int) < 20 := by omega
      have i2 : (if (z : Int) < m then (z : Int) else m) = z := by split <;> omega
      have i3 : (if (m : Int) < z then (m : Int) else z) = z := by split <;> omega
      have i4 : (if (m : Int) ≤ z then (m : Int) else z) = z := by split <;> omega
      have i5 : (z : Int) ≤ m := by omega
      have i6 : min (m : Int) z = z := by omega
      have i7 : min ((z : Int) + p.da.length) z = z := by omega
      have o1 := or4 f0 f1 f2 f3 (by omega) (by omega) (by omega) (by omega) (by omega) (by omega) (by omega) (by omega)
      have o2 := or4 t0 t1 t2 t3 (by omega) (by omega) (by omega) (by omega) (by omega) (by omega) (by omega) (by omega)
      rw [d1] at o1
      rw [d6] at o2
      have oid := OK.out.id
      have oof := OK.out.off
      have osv := OK.out.sv
      have olf := OK.out.lf
      have opr := OK.out.pr
      go_wp2_with fail
      have g0 : IntKind.i64.wrap (v2) = v2 := IntWalk.i64_in _ (by omega)
      have g1 : IntKind.i64.wrap (v3) = v3 := IntWalk.i64_in _ (by omega)
      have g2 : IntKind.i64.wrap (v4) = v4 := IntWalk.i64_in _ (by omega)
      have g3 : IntKind.i64.wrap (v5) = v5 := IntWalk.i64_in _ (by omega)
      have g4 : IntKind.i64.wrap (v6) = v6 := IntWalk.i64_in _ (by omega)
      have g5 : IntKind.i64.wrap (v7) = v7 := IntWalk.i64_in _ (by omega)
      have g6 : IntKind.i64.wrap (p.sv) = p.sv := IntWalk.i64_in _ (by omega)
      have g7 : IntKind.i64.wrap (p.lf) = p.lf := IntWalk.i64_in _ (by omega)
      have g8 : IntKind.i64.wrap (p.pr) = p.pr := IntWalk.i64_in _ (by omega)
      have g9 : IntKind.i64.wrap (v2 * 256) = v2 * 256 := IntWalk.i64_in _ (by omega)
      have g10 : IntKind.i64.wrap (v4 * 256) = v4 * 256 := IntWalk.i64_in _ (by omega)
      have g11 : IntKind.i64.wrap (v6 * 256) = v6 * 256 := IntWalk.i64_in _ (by omega)
      have g12 : IntKind.i64.wrap (v6 * 256 + v7) = v6 * 256 + v7 := IntWalk.i64_in _ (by omega)
      have g13 : IntKind.i64.wrap ((m : Int)) = (m : Int) := IntWalk.i64_in _ (by omega)
      have g14 : IntKind.i64.wrap (p.id) = p.id := IntWalk.i64_in _ (by omega)
      have g15 : IntKind.i64.wrap (p.off) = p.off := IntWalk.i64_in _ (by omega)
      have g16 : IntKind.i64.wrap ((v6 * 256 + v7) % 8192) = (v6 * 256 + v7) % 8192 := IntWalk.i64_in _ (by omega)
      have g17 : IntKind.u32.wrap (f0) = f0 := wraps_u32 _ (by omega) (by omega)
      have g18 : IntKind.u32.wrap (f1) = f1 := wraps_u32 _ (by omega) (by omega)
      have g19 : IntKind.u32.wrap (f2) = f2 := wraps_u32 _ (by omega) (by omega)
      have g20 : IntKind.u32.wrap (f3) = f3 := wraps_u32 _ (by omega) (by omega)
      have g21 : IntKind.u32.wrap (f0 * 16777216) = f0 * 16777216 := wraps_u32 _ (by omega) (by omega)
      have g22 : IntKind.u32.wrap (f1 * 65536) = f1 * 65536 := wraps_u32 _ (by omega) (by omega)
      have g23 : IntKind.u32.wrap (f2 * 256) = f2 * 256 := wraps_u32 _ (by omega) (by omega)
      have g24 : IntKind.u32.wrap (t0) = t0 := wraps_u32 _ (by omega) (by omega)
      have g25 : IntKind.u32.wrap (t1) = t1 := wraps_u32 _ (by omega) (by omega)
      have g26 : IntKind.u32.wrap (t2) = t2 := wraps_u32 _ (by omega) (by omega)
      have g27 : IntKind.u32.wrap (t3) = t3 := wraps_u32 _ (by omega) (by omega)
      have g28 : IntKind.u32.wrap (t0 * 16777216) = t0 * 16777216 := wraps_u32 _ (by omega) (by omega)
      have g29 : IntKind.u32.wrap (t1 * 65536) = t1 * 65536 := wraps_u32 _ (by omega) (by omega)
      have g30 : IntKind.u32.wrap (t2 * 256) = t2 * 256 := wraps_u32 _ (by omega) (by omega)
      have tm : (v6 * 256 + v7).tmod 8192 = (v6 * 256 + v7) % 8192 := Int.tmod_eq_emod_of_nonneg (by omega)
      go_quiet (fail)
      go_wp2_with fail
      go_quiet (fail)
      go_wp2_with fail
      go_quiet (fail)
      go_wp2_with fail
      go_quiet (fail)
      go_wp2_with fail
      go_quiet (fail)
      go_wp2_with fail
      refine over_draws (F := fun W => Code.wp _ _ _ _ W) (fun W hW => ?_)
      have BW : Below w2.heap.size w2 W := by rw [hW]; exact dn (dn (dn (dn (dn (rf w2) _) _) _) _) _
      have K0 : W.cell? ⟨g, 0, none⟩ = some (.int .u8 (v0)) := by rw [hW]; exact k0
      have K1 : W.cell? ⟨g, 1, none⟩ = some (.int .u8 (p.sv)) := by rw [hW]; exact k1
      have K6 : W.cell? ⟨g, 6, none⟩ = some (.int .u8 (v6)) := by rw [hW]; exact k6
      have K8 : W.cell? ⟨g, 8, none⟩ = some (.int .u8 (p.lf)) := by rw [hW]; exact k8
      have K9 : W.cell? ⟨g, 9, none⟩ = some (.int .u8 (p.pr)) := by rw [hW]; exact k9
      have S0 : W.cell? ⟨w.heap.size, 0, none⟩ = some (.int .i64 p.sv) := by rw [hW]; exact s0
      have S1 : W.cell? ⟨w.heap.size, 1, none⟩ = some (.int .i64 p.id) := by rw [hW]; exact s1
      have S2 : W.cell? ⟨w.heap.size, 2, none⟩ = some (.bool p.wh) := by rw [hW]; exact s2
      have S3 : W.cell? ⟨w.heap.size, 3, none⟩ = some (.bool p.mo) := by rw [hW]; exact s3
      have S4 : W.cell? ⟨w.heap.size, 4, none⟩ = some (.int .i64 p.off) := by rw [hW]; exact s4
      have S5 : W.cell? ⟨w.heap.size, 5, none⟩ = some (.int .i64 p.lf) := by rw [hW]; exact s5
      have S6 : W.cell? ⟨w.heap.size, 6, none⟩ = some (.int .i64 p.pr) := by rw [hW]; exact s6
      have S7 : W.cell? ⟨w.heap.size, 7, none⟩ = some (.int .u32 p.fr) := by rw [hW]; exact s7
      have S8 : W.cell? ⟨w.heap.size, 8, none⟩ = some (.int .u32 p.to_) := by rw [hW]; exact s8
      have S10 : W.cell? ⟨w.heap.size, 10, none⟩ = some (.slice B p.da.length e) := by rw [hW]; exact s10
      clear hW k0 k1 k2 k3 k4 k5 k6 k7 k8 k9 k10 k11 k12 k13 k14 k15 k16 k17 k18 k19 s0 s1 s2 s3 s4 s5 s6 s7 s8 s10
      have j1 : (v0 / 16 == 4) = true := by rw [u0]; rfl
      have hgW : g < W.heap.size := Nat.lt_of_lt_of_le hgl BW.size
      have hwW : w.heap.size < W.heap.size := Nat.lt_of_lt_of_le HB2'.out.lt BW.size
      have KS : Hid (∀ w', Below W.heap.size W w' → (w'.cell? ⟨g, 0, none⟩ = some (.int .u8 (v0)) ∧ w'.cell? ⟨g, 1, none⟩ = some (.int .u8 (p.sv)) ∧ w'.cell? ⟨g, 6, none⟩ = some (.int .u8 (v6)) ∧ w'.cell? ⟨g, 8, none⟩ = some (.int .u8 (p.lf)) ∧ w'.cell? ⟨g, 9, none⟩ = some (.int .u8 (p.pr)) ∧ w'.cell? ⟨w.heap.size, 0, none⟩ = some (.int .i64 p.sv) ∧ w'.cell? ⟨w.heap.size, 1, none⟩ = some (.int .i64 p.id) ∧ w'.cell? ⟨w.heap.size, 2, none⟩ = some (.bool p.wh) ∧ w'.cell? ⟨w.heap.size, 3, none⟩ = some (.bool p.mo) ∧ w'.cell? ⟨w.heap.size, 4, none⟩ = some (.int .i64 p.off) ∧ w'.cell? ⟨w.heap.size, 5, none⟩ = some (.int .i64 p.lf) ∧ w'.cell? ⟨w.heap.size, 6, none⟩ = some (.int .i64 p.pr) ∧ w'.cell? ⟨w.heap.size, 7, none⟩ = some (.int .u32 p.fr) ∧ w'.cell? ⟨w.heap.size, 8, none⟩ = some (.int .u32 p.to_) ∧ w'.cell? ⟨w.heap.size, 10, none⟩ = some (.slice B p.da.length e))) := fun w' k => ⟨(k.cell (p := ⟨g, 0, none⟩) hgW).trans K0, (k.cell (p := ⟨g, 1, none⟩) hgW).trans K1, (k.cell (p := ⟨g, 6, none⟩) hgW).trans K6, (k.cell (p := ⟨g, 8, none⟩) hgW).trans K8, (k.cell (p := ⟨g, 9, none⟩) hgW).trans K9, (k.cell (p := ⟨w.heap.size, 0, none⟩) hwW).trans S0, (k.cell (p := ⟨w.heap.size, 1, none⟩) hwW).trans S1, (k.cell (p := ⟨w.heap.size, 2, none⟩) hwW).trans S2, (k.cell (p := ⟨w.heap.size, 3, none⟩) hwW).trans S3, (k.cell (p := ⟨w.heap.size, 4, none⟩) hwW).trans S4, (k.cell (p := ⟨w.heap.size, 5, none⟩) hwW).trans S5, (k.cell (p := ⟨w.heap.size, 6, none⟩) hwW).trans S6, (k.cell (p := ⟨w.heap.size, 7, none⟩) hwW).trans S7, (k.cell (p := ⟨w.heap.size, 8, none⟩) hwW).trans S8, (k.cell (p := ⟨w.heap.size, 10, none⟩) hwW).trans S10⟩
      have S0' := KS.out W (rf W)
      have YD : Hid (∀ w', Below W.heap.size W w' → Bytes w' (cutA (some ⟨g, 0, none⟩) c2 z) p.da) := fun w' k => by
        have := cut_bytes (Y.out.nx (nx BW k)) (n := L.length) rfl (m := z) (by rw [← HMM.out]; omega) (by rw [← HMM.out]; exact hcap)
        rw [hdrop] at this
        exact this
      have YE : Hid (∀ w', Below W.heap.size W w' → Bytes w' B p.da) := fun w' k => HDD.out.nx (nx B2.out (nx BW k))
      have EW : Hid (∀ w', Below W.heap.size W w' → Env w') := fun w' k => HE.out.nx (nx B2.out (nx BW k))
      have hdl : p.da.length ≤ 65535 := by omega
      have BWW := Lib.hid (nx B2.out BW)
      clear K0 K1 K6 K8 K9 S0 S1 S2 S3 S4 S5 S6 S7 S8 S10 BW
      have x1 : (z : Int) ≤ ((z + p.da.length : Nat) : Int) := by omega
      have x2 : z ≤ z + p.da.length := by omega
      have x3 : (0 : Int) ≤ z := by omega
      have x4 : z + p.da.length - z = p.da.length := by omega
      have htd : v0.tdiv 16 = 4 := by rw [Int.tdiv_eq_ediv_of_nonneg (by omega)]; omega
      have n0a : (0 : Int) < ((z + p.da.length : Nat) : Int) := by omega
      have n0b : (0 : Int) < (z : Int) + p.da.length := by omega
      have n1a : (1 : Int) < ((z + p.da.length : Nat) : Int) := by omega
      have n1b : (1 : Int) < (z : Int) + p.da.length := by omega
      have n6a : (6 : Int) < ((z + p.da.length : Nat) : Int) := by omega
      have n6b : (6 : Int) < (z : Int) + p.da.length := by omega
      have n8a : (8 : Int) < ((z + p.da.length : Nat) : Int) := by omega
      have n8b : (8 : Int) < (z : Int) + p.da.length := by omega
      have n9a : (9 : Int) < ((z + p.da.length : Nat) : Int) := by omega
      have n9b : (9 : Int) < (z : Int) + p.da.length := by omega
      have x5 : ((z + p.da.length : Nat) : Int) ≤ c2 := by omega
      have x6 : (z : Int) + p.da.length ≤ c2 := by omega
      have x7 : z + p.da.length ≤ c2 := by omega
      have x8 : (z : Int) ≤ (z : Int) + p.da.length := by omega
      have x9 : (z : Int) ≤ c2 := by omega
      clear u0 u1 u2 u3 a2 a3 a4 a5 a6 a7 a8 a9 a10 d1 d2 d3 d4 d5 d6 d7 d8 d9 d10 o1 o2 oid oof osv olf opr i1 i2 i3 i4 i5 i6 i7 tm hdrop hlen hcap hle hsz hgl hgb hgW hwW g0 g1 g2 g3 g4 g5 g9 g10 g11 g12 g13 g14 g15 g16 g17 g18 g19 g20 g21 g22 g23 g24 g25 g26 g27 g28 g29 g30
      by_cases hcz : c2 = z
      · have hcut : cutA (some ⟨g, 0, none⟩) c2 z = some ⟨g, 0, none⟩ := by unfold cutA; rw [if_pos hcz]
        rw [hcut] at YD
        have K0 : ∀ x : Bw W, x.w.cell? ⟨g, 0, none⟩ = some (.int .u8 (v0)) := fun x => (KS.out x.w x.h).1
        have K1 : ∀ x : Bw W, x.w.cell? ⟨g, 1, none⟩ = some (.int .u8 (p.sv)) := fun x => (KS.out x.w x.h).2.1
        have K6 : ∀ x : Bw W, x.w.cell? ⟨g, 6, none⟩ = some (.int .u8 (v6)) := fun x => (KS.out x.w x.h).2.2.1
        have K8 : ∀ x : Bw W, x.w.cell? ⟨g, 8, none⟩ = some (.int .u8 (p.lf)) := fun x => (KS.out x.w x.h).2.2.2.1
        have K9 : ∀ x : Bw W, x.w.cell? ⟨g, 9, none⟩ = some (.int .u8 (p.pr)) := fun x => (KS.out x.w x.h).2.2.2.2.1
        have S0 : ∀ x : Bw W, x.w.cell? ⟨w.heap.size, 0, none⟩ = some (.int .i64 p.sv) := fun x => (KS.out x.w x.h).2.2.2.2.2.1
        have S1 : ∀ x : Bw W, x.w.cell? ⟨w.heap.size, 1, none⟩ = some (.int .i64 p.id) := fun x => (KS.out x.w x.h).2.2.2.2.2.2.1
        have S2 : ∀ x : Bw W, x.w.cell? ⟨w.heap.size, 2, none⟩ = some (.bool p.wh) := fun x => (KS.out x.w x.h).2.2.2.2.2.2.2.1
        have S3 : ∀ x : Bw W, x.w.cell? ⟨w.heap.size, 3, none⟩ = some (.bool p.mo) := fun x => (KS.out x.w x.h).2.2.2.2.2.2.2.2.1
        have S4 : ∀ x : Bw W, x.w.cell? ⟨w.heap.size, 4, none⟩ = some (.int .i64 p.off) := fun x => (KS.out x.w x.h).2.2.2.2.2.2.2.2.2.1
        have S5 : ∀ x : Bw W, x.w.cell? ⟨w.heap.size, 5, none⟩ = some (.int .i64 p.lf) := fun x => (KS.out x.w x.h).2.2.2.2.2.2.2.2.2.2.1
        have S6 : ∀ x : Bw W, x.w.cell? ⟨w.heap.size, 6, none⟩ = some (.int .i64 p.pr) := fun x => (KS.out x.w x.h).2.2.2.2.2.2.2.2.2.2.2.1
        have S7 : ∀ x : Bw W, x.w.cell? ⟨w.heap.size, 7, none⟩ = some (.int .u32 p.fr) := fun x => (KS.out x.w x.h).2.2.2.2.2.2.2.2.2.2.2.2.1
        have S8 : ∀ x : Bw W, x.w.cell? ⟨w.heap.size, 8, none⟩ = some (.int .u32 p.to_) := fun x => (KS.out x.w x.h).2.2.2.2.2.2.2.2.2.2.2.2.2.1
        have S10 : ∀ x : Bw W, x.w.cell? ⟨w.heap.size, 10, none⟩ = some (.slice B p.da.length e) := fun x => (KS.out x.w x.h).2.2.2.2.2.2.2.2.2.2.2.2.2.2
        as_aux_lemma =>
          dsimp only [List.append]
          refine wp_region_below (by kernel_rfl) (by as_aux_lemma => exact lexB_of _ (by kernel_rfl) (by kernel_rfl)) ?_
          repeat (go_big_quiet_step (first
            | (go_at_call 15; exact Calls.bw _ (same_ _ (some ⟨g, 0, none⟩) B p.da p.da _ _ _ e (YD.out _ (Bw.h _)) (YE.out _ (Bw.h _)) (by omega) rfl (by omega) (by omega)))
            | (go_at_call 17; exact Calls.bw _ (known _ (EW.out _ (Bw.h _))))))
          refine wpQuiet_nil ?_
          intro _ hw'
          obtain ⟨y, rfl⟩ := hw'
          go_wp2
          go_ret
          exact ⟨rfl, nx BWW.out y.h⟩
      · have hcut : cutA (some ⟨g, 0, none⟩) c2 z = some ⟨g, z, none⟩ := by unfold cutA; rw [if_neg hcz]; show some (Addr.add _ _) = _; rw [Addr.add_mid, Nat.zero_add]
        rw [hcut] at YD
        have K0 : ∀ x : Bw W, x.w.cell? ⟨g, 0, none⟩ = some (.int .u8 (v0)) := fun x => (KS.out x.w x.h).1
        have K1 : ∀ x : Bw W, x.w.cell? ⟨g, 1, none⟩ = some (.int .u8 (p.sv)) := fun x => (KS.out x.w x.h).2.1
        have K6 : ∀ x : Bw W, x.w.cell? ⟨g, 6, none⟩ = some (.int .u8 (v6)) := fun x => (KS.out x.w x.h).2.2.1
        have K8 : ∀ x : Bw W, x.w.cell? ⟨g, 8, none⟩ = some (.int .u8 (p.lf)) := fun x => (KS.out x.w x.h).2.2.2.1
        have K9 : ∀ x : Bw W, x.w.cell? ⟨g, 9, none⟩ = some (.int .u8 (p.pr)) := fun x => (KS.out x.w x.h).2.2.2.2.1
        have S0 : ∀ x : Bw W, x.w.cell? ⟨w.heap.size, 0, none⟩ = some (.int .i64 p.sv) := fun x => (KS.out x.w x.h).2.2.2.2.2.1
        have S1 : ∀ x : Bw W, x.w.cell? ⟨w.heap.size, 1, none⟩ = some (.int .i64 p.id) := fun x => (KS.out x.w x.h).2.2.2.2.2.2.1
        have S2 : ∀ x : Bw W, x.w.cell? ⟨w.heap.size, 2, none⟩ = some (.bool p.wh) := fun x => (KS.out x.w x.h).2.2.2.2.2.2.2.1
        have S3 : ∀ x : Bw W, x.w.cell? ⟨w.heap.size, 3, none⟩ = some (.bool p.mo) := fun x => (KS.out x.w x.h).2.2.2.2.2.2.2.2.1
        have S4 : ∀ x : Bw W, x.w.cell? ⟨w.heap.size, 4, none⟩ = some (.int .i64 p.off) := fun x => (KS.out x.w x.h).2.2.2.2.2.2.2.2.2.1
        have S5 : ∀ x : Bw W, x.w.cell? ⟨w.heap.size, 5, none⟩ = some (.int .i64 p.lf) := fun x => (KS.out x.w x.h).2.2.2.2.2.2.2.2.2.2.1
        have S6 : ∀ x : Bw W, x.w.cell? ⟨w.heap.size, 6, none⟩ = some (.int .i64 p.pr) := fun x => (KS.out x.w x.h).2.2.2.2.2.2.2.2.2.2.2.1
        have S7 : ∀ x : Bw W, x.w.cell? ⟨w.heap.size, 7, none⟩ = some (.int .u32 p.fr) := fun x => (KS.out x.w x.h).2.2.2.2.2.2.2.2.2.2.2.2.1
        have S8 : ∀ x : Bw W, x.w.cell? ⟨w.heap.size, 8, none⟩ = some (.int .u32 p.to_) := fun x => (KS.out x.w x.h).2.2.2.2.2.2.2.2.2.2.2.2.2.1
        have S10 : ∀ x : Bw W, x.w.cell? ⟨w.heap.size, 10, none⟩ = some (.slice B p.da.length e) := fun x => (KS.out x.w x.h).2.2.2.2.2.2.2.2.2.2.2.2.2.2
        as_aux_lemma =>
          dsimp only [List.append]
          refine wp_region_below (by kernel_rfl) (by as_aux_lemma => exact lexB_of _ (by kernel_rfl) (by kernel_rfl)) ?_
          repeat (go_big_quiet_step (first
            | (go_at_call 15; exact Calls.bw _ (same_ _ (some ⟨g, z, none⟩) B p.da p.da _ _ _ e (YD.out _ (Bw.h _)) (YE.out _ (Bw.h _)) (by omega) rfl (by omega) (by omega)))
            | (go_at_call 17; exact Calls.bw _ (known _ (EW.out _ (Bw.h _))))))
          refine wpQuiet_nil ?_
          intro _ hw'
          obtain ⟨y, rfl⟩ := hw'
          go_wp2
          go_ret
          exact ⟨rfl, nx BWW.out y.h⟩
    · obtain ⟨M, hM⟩ : ∃ M, M = mayI p := ⟨_, rfl⟩
      have y1 : (M != 0) = true := by rw [bne_iff_ne, hM]; exact hm
      rw [← hM]
      clear hm hM
      have B2 := Lib.hid (nx B1.out b2)
      go_wp2_with fail
      refine (known w2 (HE.out.nx B2.out)).mono ?_
      rintro e3 w3 ⟨rfl, b3⟩
      go_wp2
      go_ret
      exact ⟨rfl, nx B2.out b3⟩
end Go.Proofs.YthjpdaflgphbbaaDoor
