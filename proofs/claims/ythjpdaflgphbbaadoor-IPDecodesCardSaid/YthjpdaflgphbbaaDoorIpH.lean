/-
  IP: a packet's bytes, in plain Lean; the program's header.
-/
import Derived.Test.YthjpdaflgphbbaaDoorIpM
import Derived.Test.YthjpdaflgphbbaaDoorOctS
set_option linter.unusedVariables false
namespace Go.Proofs.YthjpdaflgphbbaaDoor
open Go.RowKit

structure OkP (p : Pk) : Prop where
  sv : 0 ≤ p.sv ∧ p.sv ≤ 255
  id : 0 ≤ p.id ∧ p.id ≤ 65535
  off : 0 ≤ p.off ∧ p.off ≤ 65528
  lf : 0 ≤ p.lf ∧ p.lf ≤ 255
  pr : 0 ≤ p.pr ∧ p.pr ≤ 255
  o8 : p.off % 8 = 0
  ol : p.op.length ≤ 40
  g : gd p.op 0 = true
  len : sizeP p.op.length + p.da.length ≤ 65535
  off2 : p.off + p.da.length ≤ 65535 - (sizeP p.op.length : Int)
theorem okP_of {p : Pk} (h : mayI p = 0) : OkP p := by
  unfold mayI at h
  split at h
  · cases h
  · rename_i hb
    split at h
    · cases h
    · rename_i ho
      split at h
      · cases h
      · rename_i hi
        unfold bad1 at hb
        have hg : gd p.op 0 = true := by cases hc : gd p.op 0 <;> simp_all
        have hin : inP p = true := by cases hc : inP p <;> simp_all
        unfold inP at hin
        simp only [Bool.and_eq_true, decide_eq_true_eq] at hin
        exact ⟨by omega, by omega, by omega, by omega, by omega, by omega, by omega, hg, hin.1, hin.2⟩
def flA (b : Bool) (n : Nat) : Nat := if b then n else 0
def flP (p : Pk) : Nat := flA p.wh 16384 + flA p.mo 8192 + (p.off / 8).toNat
def hd1 (p : Pk) : List UInt8 := beB (64 + sizeP p.op.length / 4) 1 ++ beB p.sv.toNat 1 ++ beB (sizeP p.op.length + p.da.length) 2 ++ beB p.id.toNat 2 ++ beB (flP p) 2 ++ beB p.lf.toNat 1 ++ beB p.pr.toNat 1
def hd2 (p : Pk) : List UInt8 := beB p.fr 4 ++ beB p.to_ 4 ++ p.op ++ List.replicate (sizeP p.op.length - 20 - p.op.length) 0
def hdr (p : Pk) (s : Nat) : List UInt8 := hd1 p ++ beB s 2 ++ hd2 p
theorem hd1_len (p : Pk) : (hd1 p).length = 10 := by simp [hd1, beB_len]
theorem hdr_len (p : Pk) (s : Nat) : (hdr p s).length = sizeP p.op.length := by
  simp [hdr, hd1_len, hd2, beB_len]; unfold sizeP; omega
def encP (p : Pk) : List UInt8 := hdr p (sumB (hdr p 0)) ++ p.da
theorem wbyte (w : World) {B : Nat} (b : Nat) (l : List UInt8) (v : Int) (h : IsW w B b l) (hv0 : 0 ≤ v) (hv1 : v ≤ 4294967295) (hl : l.length ≤ 1099511627776) (hBw : B ≤ w.heap.size) :
    Calls Tryd.prog 30 #[.pointer (some ⟨b, 0, none⟩), .int .i64 v] w fun e w' => e = .returned (.tuple #[]) ∧ IsW w' B b (l ++ beB v.toNat 1) ∧ Below B w w' := by
  go_enter Tryd.func30, Tryd.ntmps30
  go_wp2_with fail
  refine (wlay _ _ l v 1 h hv0 hv1 (by omega) hl hBw).mono ?_
  rintro e w1 ⟨rfl, h1, h2⟩
  go_wp2
  go_end0
  exact ⟨rfl, h1, h2⟩
theorem wfour (w : World) {B : Nat} (b : Nat) (l : List UInt8) (v : Int) (h : IsW w B b l) (hv0 : 0 ≤ v) (hv1 : v ≤ 4294967295) (hl : l.length ≤ 1099511627776) (hBw : B ≤ w.heap.size) :
    Calls Tryd.prog 33 #[.pointer (some ⟨b, 0, none⟩), .int .u32 v] w fun e w' => e = .returned (.tuple #[]) ∧ IsW w' B b (l ++ beB v.toNat 4) ∧ Below B w w' := by
  go_enter Tryd.func33, Tryd.ntmps33
  go_wp2_with fail
  refine (wlay _ _ l v 4 h hv0 hv1 (by omega) hl hBw).mono ?_
  rintro e w1 ⟨rfl, h1, h2⟩
  go_wp2
  go_end0
  exact ⟨rfl, h1, h2⟩
theorem flagC (b : Bool) (n : Nat) (w : World) : Calls Tryd.prog 32 #[.bool b, .int .i64 n] w fun e w' => e = .returned (.int .i64 (flA b n)) ∧ w' = w := by
  cases b with
  | true =>
    go_enter Tryd.func32, Tryd.ntmps32
    go_wp2
    go_ret
    exact ⟨rfl, rfl⟩
  | false =>
    go_enter Tryd.func32, Tryd.ntmps32
    go_wp2
    go_ret
    exact ⟨rfl, rfl⟩
theorem or64 (q : Nat) (h : q < 64) : bits .or .i64 64 (q : Int) = 64 + q :=
  bits_join .i64 62 (by decide) wraps_i64_62 6 64 q (by omega) (by omega) (by omega) (by omega) (by omega) (by omega)
theorem orF (a b : Bool) : bits .or .i64 (flA a 16384 : Nat) (flA b 8192 : Nat) = ((flA a 16384 + flA b 8192 : Nat) : Int) := by
  cases a <;> cases b <;> rfl
theorem orG (x q : Nat) (hx : x % 8192 = 0) (h1 : x < 65536) (h : q < 8192) : bits .or .i64 (x : Int) (q : Int) = ((x + q : Nat) : Int) := by
  have := bits_join .i64 62 (by decide) wraps_i64_62 13 (x : Int) q (by omega) (by omega) (by omega) (by omega) (by omega) (by omega)
  rw [this]; omega
theorem flA_mod (a b : Bool) : (flA a 16384 + flA b 8192) % 8192 = 0 ∧ flA a 16384 + flA b 8192 < 65536 := by cases a <;> cases b <;> decide

set_option maxHeartbeats 3200000 in
set_option maxRecDepth 10000 in
theorem hdrC (w : World) (p : Pk) (o d : Value) (s gn gp : Nat) (h : IsPk w p o d) (ok : OkP p) (hs : s ≤ 65535) (hn : Blk w gn 3 #[.int .i64 (sizeP p.op.length)]) (hp : Blk w gp 26 (p.cs o d).toArray) :
    Calls Tryd.prog 29 #[.int .i64 s, .pointer (some ⟨gn, 0, none⟩), .pointer (some ⟨gp, 0, none⟩)] w fun e w' => ∃ v, e = .returned v ∧ IsRow w w' (hdr p s) v := by
  obtain ⟨⟨A, c, rfl, hb1, hc1⟩, ⟨B, e, rfl, hb2, hc2⟩, _, hfr, hto, _, _⟩ := h
  have OK := Lib.hid ok
  have HBO := Lib.hid hb1
  have hgn := hn.lt
  have hgp := hp.lt
  have KN : Hid (∀ w', Below w.heap.size w w' → w'.cell? ⟨gn, 0, none⟩ = some (.int .i64 (sizeP p.op.length))) := fun w' k => (hn.below k hgn).cell 0
  have KP : Hid (∀ w', Below w.heap.size w w' → ∀ i, w'.cell? ⟨gp, i, none⟩ = (p.cs (.slice A p.op.length c) (.slice B p.da.length e)).toArray[i]?) := fun w' k i => (hp.below k hgp).cell i
  clear hn hp ok hb1 hb2
  obtain ⟨z, hz⟩ : ∃ z, z = sizeP p.op.length := ⟨_, rfl⟩
  have z1 : z ≤ 60 ∧ 20 ≤ z ∧ z % 4 = 0 ∧ 20 + p.op.length ≤ z := by have := OK.out.ol; rw [hz]; unfold sizeP; omega
  have z2 : z + p.da.length ≤ 65535 := by rw [hz]; exact OK.out.len
  rw [← hz] at KN
  have HZ := Lib.hid hz; clear hz
  have t1 : (z : Int).tdiv 4 = ((z / 4 : Nat) : Int) := by rw [Int.tdiv_eq_ediv_of_nonneg (by omega)]; omega
  obtain ⟨q, hq⟩ : ∃ q, q = z / 4 := ⟨_, rfl⟩
  rw [← hq] at t1
  have q1 := or64 q (by omega)
  have wq : IntKind.i64.wrap (q : Int) = q := IntWalk.i64_in _ (by omega)
  have q64 : q < 16 := by omega
  have HQ := Lib.hid hq; clear hq
  have I0 := Lib.hid (IsW.new w (B := w.heap.size) rfl (Nat.le_refl _))
  have B0 := Lib.hid (al (rf w) (.cells #[.slice none 0 0] 57))
  have s0 := B0.out.size
  have n0 := KN.out _ B0.out
  go_enter Tryd.func29, Tryd.ntmps29
  go_wp2_with fail
  refine (wbyte _ w.heap.size [] (64 + (q : Int)) I0.out (by have := OK.out.sv; have := OK.out.lf; have := OK.out.pr; omega) (by have := OK.out.sv; have := OK.out.lf; have := OK.out.pr; omega) (by simp) s0).mono ?_
  rintro e1 w1 ⟨rfl, i1, b1⟩
  have I1 := Lib.hid i1; have B1 : Hid (Below w.heap.size w w1) := B0.out.trans b1; have s1 := B1.out.size; clear i1 b1
  have c1_0 : w1.cell? ⟨gp, 0, none⟩ = some (.int .i64 p.sv) := KP.out _ B1.out 0
  go_wp2_with fail
  refine (wbyte _ w.heap.size ([] ++ beB (64 + (q : Int)).toNat 1) (p.sv) I1.out (by have := OK.out.sv; have := OK.out.lf; have := OK.out.pr; omega) (by have := OK.out.sv; have := OK.out.lf; have := OK.out.pr; omega) (by simp [beB_len] <;> (have := OK.out.ol; omega)) s1).mono ?_
  rintro e2 w2 ⟨rfl, i2, b2⟩
  have I2 := Lib.hid i2; have B2 : Hid (Below w.heap.size w w2) := B1.out.trans b2; have s2 := B2.out.size; clear i2 b2
  have n2 := KN.out _ B2.out
  have c2_10 : w2.cell? ⟨gp, 10, none⟩ = some (.slice B p.da.length e) := KP.out _ B2.out 10
  go_wp2_with fail
  refine (wtwo _ w.heap.size ([] ++ beB (64 + (q : Int)).toNat 1 ++ beB p.sv.toNat 1) ((z : Int) + p.da.length) I2.out (by have := OK.out.id; omega) (by have := OK.out.id; omega) (by simp [beB_len] <;> (have := OK.out.ol; omega)) s2).mono ?_
  rintro e3 w3 ⟨rfl, i3, b3⟩
  have I3 := Lib.hid i3; have B3 : Hid (Below w.heap.size w w3) := B2.out.trans b3; have s3 := B3.out.size; clear i3 b3
  have c3_1 : w3.cell? ⟨gp, 1, none⟩ = some (.int .i64 p.id) := KP.out _ B3.out 1
  go_wp2_with fail
  refine (wtwo _ w.heap.size ([] ++ beB (64 + (q : Int)).toNat 1 ++ beB p.sv.toNat 1 ++ beB ((z : Int) + p.da.length).toNat 2) (p.id) I3.out (by have := OK.out.id; omega) (by have := OK.out.id; omega) (by simp [beB_len] <;> (have := OK.out.ol; omega)) s3).mono ?_
  rintro e4 w4 ⟨rfl, i4, b4⟩
  have I4 := Lib.hid i4; have B4 : Hid (Below w.heap.size w w4) := B3.out.trans b4; have s4 := B4.out.size; clear i4 b4
  have c4_2 : w4.cell? ⟨gp, 2, none⟩ = some (.bool p.wh) := KP.out _ B4.out 2
  have c4_3 : w4.cell? ⟨gp, 3, none⟩ = some (.bool p.mo) := KP.out _ B4.out 3
  have c4_4 : w4.cell? ⟨gp, 4, none⟩ = some (.int .i64 p.off) := KP.out _ B4.out 4
  have o1 := orF p.wh p.mo
  have o3 := flA_mod p.wh p.mo
  have t2 : p.off.tdiv 8 = (((p.off / 8).toNat : Nat) : Int) := by have := OK.out.off; rw [Int.tdiv_eq_ediv_of_nonneg (by omega)]; omega
  have o2 := orG (flA p.wh 16384 + flA p.mo 8192) (p.off / 8).toNat o3.1 o3.2 (by have := OK.out.off; omega)
  have HF : Hid (flA p.wh 16384 + flA p.mo 8192 + (p.off / 8).toNat = flP p) := rfl
  have hfl : flA p.wh 16384 + flA p.mo 8192 + (p.off / 8).toNat ≤ 65535 := by have := OK.out.off; omega
  have fl1 : ∀ W, Calls Tryd.prog 32 #[.bool p.wh, .int .i64 16384] W fun e w' => e = .returned (.int .i64 (flA p.wh 16384)) ∧ w' = W := fun W => flagC p.wh 16384 W
  have fl2 : ∀ W, Calls Tryd.prog 32 #[.bool p.mo, .int .i64 8192] W fun e w' => e = .returned (.int .i64 (flA p.mo 8192)) ∧ w' = W := fun W => flagC p.mo 8192 W
  have hw1 : IntKind.i64.wrap ((p.off / 8).toNat : Int) = (p.off / 8).toNat := IntWalk.i64_in _ (by omega)
  generalize (p.off / 8).toNat = oq at t2 o2 HF hfl hw1
  generalize flA p.wh 16384 = fa at o1 o2 o3 HF fl1 hfl
  generalize flA p.mo 8192 = fb at o1 o2 o3 HF fl2 hfl
  generalize fa + fb = fab at o1 o2 o3 HF hfl
  have FL1 := Lib.hid fl1
  have FL2 := Lib.hid fl2
  clear fl1 fl2
  have KS : Hid (∀ w', Below w.heap.size w w' → w'.cell? ⟨gp, 2, none⟩ = some (.bool p.wh) ∧ w'.cell? ⟨gp, 3, none⟩ = some (.bool p.mo) ∧ w'.cell? ⟨gp, 4, none⟩ = some (.int .i64 p.off)) := fun w' k => ⟨KP.out w' k 2, KP.out w' k 3, KP.out w' k 4⟩
  go_wp2_with fail
  go_region_held3 (fun w' => w'.cell? ⟨gp, 2, none⟩ = some (.bool p.wh) ∧ w'.cell? ⟨gp, 3, none⟩ = some (.bool p.mo) ∧ w'.cell? ⟨gp, 4, none⟩ = some (.int .i64 p.off))
    (first | exact KS.out _ B4.out.drew | exact KS.out _ (by assumption) | exact KS.out _ BF | (exact KS.out _ (dn B4.out 1)))
    (first
      | (go_at_call 32; refine (FL1.out _).mono ?_; rintro e w' ⟨rfl, rfl⟩)
      | (go_at_call 32; refine (FL2.out _).mono ?_; rintro e w' ⟨rfl, rfl⟩)
      | (go_at_call 31; refine (wtwo _ w.heap.size ([] ++ beB (64 + (q : Int)).toNat 1 ++ beB p.sv.toNat 1 ++ beB ((z : Int) + p.da.length).toNat 2 ++ beB p.id.toNat 2) ((fab : Int) + oq) (I4.out.nx (rf _).drew) (by omega) (by omega) (by simp [beB_len] <;> (have := OK.out.ol; omega)) s4).mono ?_; rintro e5 w5 ⟨rfl, i5, b5⟩
         have BF : Below w.heap.size w w5 := B4.out.drew.trans b5)
      | fail)
  have I5 := Lib.hid i5; have B5 := Lib.hid BF; have s5 := B5.out.size; clear i5 b5 BF
  have c5_5 : w5.cell? ⟨gp, 5, none⟩ = some (.int .i64 p.lf) := KP.out _ B5.out 5
  go_wp2_with fail
  refine (wbyte _ w.heap.size ([] ++ beB (64 + (q : Int)).toNat 1 ++ beB p.sv.toNat 1 ++ beB ((z : Int) + p.da.length).toNat 2 ++ beB p.id.toNat 2 ++ beB ((fab : Int) + oq).toNat 2) (p.lf) I5.out (by have := OK.out.sv; have := OK.out.lf; have := OK.out.pr; omega) (by have := OK.out.sv; have := OK.out.lf; have := OK.out.pr; omega) (by simp [beB_len] <;> (have := OK.out.ol; omega)) s5).mono ?_
  rintro e6 w6 ⟨rfl, i6, b6⟩
  have I6 := Lib.hid i6; have B6 : Hid (Below w.heap.size w w6) := B5.out.trans b6; have s6 := B6.out.size; clear i6 b6
  have c6_6 : w6.cell? ⟨gp, 6, none⟩ = some (.int .i64 p.pr) := KP.out _ B6.out 6
  go_wp2_with fail
  refine (wbyte _ w.heap.size ([] ++ beB (64 + (q : Int)).toNat 1 ++ beB p.sv.toNat 1 ++ beB ((z : Int) + p.da.length).toNat 2 ++ beB p.id.toNat 2 ++ beB ((fab : Int) + oq).toNat 2 ++ beB p.lf.toNat 1) (p.pr) I6.out (by have := OK.out.sv; have := OK.out.lf; have := OK.out.pr; omega) (by have := OK.out.sv; have := OK.out.lf; have := OK.out.pr; omega) (by simp [beB_len] <;> (have := OK.out.ol; omega)) s6).mono ?_
  rintro e7 w7 ⟨rfl, i7, b7⟩
  have I7 := Lib.hid i7; have B7 : Hid (Below w.heap.size w w7) := B6.out.trans b7; have s7 := B7.out.size; clear i7 b7
  go_wp2_with fail
  refine (wtwo _ w.heap.size ([] ++ beB (64 + (q : Int)).toNat 1 ++ beB p.sv.toNat 1 ++ beB ((z : Int) + p.da.length).toNat 2 ++ beB p.id.toNat 2 ++ beB ((fab : Int) + oq).toNat 2 ++ beB p.lf.toNat 1 ++ beB p.pr.toNat 1) ((s : Int)) I7.out (by have := OK.out.id; omega) (by have := OK.out.id; omega) (by simp [beB_len] <;> (have := OK.out.ol; omega)) s7).mono ?_
  rintro e8 w8 ⟨rfl, i8, b8⟩
  have I8 := Lib.hid i8; have B8 : Hid (Below w.heap.size w w8) := B7.out.trans b8; have s8 := B8.out.size; clear i8 b8
  have c8_7 : w8.cell? ⟨gp, 7, none⟩ = some (.int .u32 p.fr) := KP.out _ B8.out 7
  go_wp2_with fail
  refine (wfour _ w.heap.size ([] ++ beB (64 + (q : Int)).toNat 1 ++ beB p.sv.toNat 1 ++ beB ((z : Int) + p.da.length).toNat 2 ++ beB p.id.toNat 2 ++ beB ((fab : Int) + oq).toNat 2 ++ beB p.lf.toNat 1 ++ beB p.pr.toNat 1 ++ beB (s : Int).toNat 2) ((p.fr : Int)) I8.out (by omega) (by omega) (by simp [beB_len] <;> (have := OK.out.ol; omega)) s8).mono ?_
  rintro e9 w9 ⟨rfl, i9, b9⟩
  have I9 := Lib.hid i9; have B9 : Hid (Below w.heap.size w w9) := B8.out.trans b9; have s9 := B9.out.size; clear i9 b9
  have c9_8 : w9.cell? ⟨gp, 8, none⟩ = some (.int .u32 p.to_) := KP.out _ B9.out 8
  go_wp2_with fail
  refine (wfour _ w.heap.size ([] ++ beB (64 + (q : Int)).toNat 1 ++ beB p.sv.toNat 1 ++ beB ((z : Int) + p.da.length).toNat 2 ++ beB p.id.toNat 2 ++ beB ((fab : Int) + oq).toNat 2 ++ beB p.lf.toNat 1 ++ beB p.pr.toNat 1 ++ beB (s : Int).toNat 2 ++ beB (p.fr : Int).toNat 4) ((p.to_ : Int)) I9.out (by omega) (by omega) (by simp [beB_len] <;> (have := OK.out.ol; omega)) s9).mono ?_
  rintro e10 w10 ⟨rfl, i10, b10⟩
  have I10 := Lib.hid i10; have B10 : Hid (Below w.heap.size w w10) := B9.out.trans b10; have s10 := B10.out.size; clear i10 b10
  have c10_9 : w10.cell? ⟨gp, 9, none⟩ = some (.slice A p.op.length c) := KP.out _ B10.out 9
  go_wp2_with fail
  refine (wraw _ w.heap.size ([] ++ beB (64 + (q : Int)).toNat 1 ++ beB p.sv.toNat 1 ++ beB ((z : Int) + p.da.length).toNat 2 ++ beB p.id.toNat 2 ++ beB ((fab : Int) + oq).toNat 2 ++ beB p.lf.toNat 1 ++ beB p.pr.toNat 1 ++ beB (s : Int).toNat 2 ++ beB (p.fr : Int).toNat 4 ++ beB (p.to_ : Int).toNat 4) p.op A _ c I10.out (HBO.out.nx B10.out) rfl (by simp [beB_len] <;> (have := OK.out.ol; omega)) s10).mono ?_
  rintro e11 w11 ⟨rfl, i11, b11⟩
  have I11 := Lib.hid i11; have B11 : Hid (Below w.heap.size w w11) := B10.out.trans b11; have s11 := B11.out.size; clear i11 b11
  have n11 := KN.out _ B11.out
  have c11_9 : w11.cell? ⟨gp, 9, none⟩ = some (.slice A p.op.length c) := KP.out _ B11.out 9
  have hmk := run_make_bytes (z - 20 - p.op.length) (by omega) ((z : Int) - 20 - p.op.length) (by omega)
  go_wp2_with fail
  refine (wraw _ w.heap.size ([] ++ beB (64 + (q : Int)).toNat 1 ++ beB p.sv.toNat 1 ++ beB ((z : Int) + p.da.length).toNat 2 ++ beB p.id.toNat 2 ++ beB ((fab : Int) + oq).toNat 2 ++ beB p.lf.toNat 1 ++ beB p.pr.toNat 1 ++ beB (s : Int).toNat 2 ++ beB (p.fr : Int).toNat 4 ++ beB (p.to_ : Int).toNat 4 ++ p.op) (List.replicate (z - 20 - p.op.length) 0) _ _ _ (I11.out.al _) (made_bytes (Blk.new _ _ _)) (by simp) (by simp [beB_len] <;> (have := OK.out.ol; omega)) (Nat.le_trans s11 (by simp))).mono ?_
  rintro e12 w12 ⟨rfl, i12, b12⟩
  have I12 := Lib.hid i12; have B12 : Hid (Below w.heap.size w w12) := (al B11.out _).trans b12; have s12 := B12.out.size; clear i12 b12
  go_wp2_with fail
  refine (wbytes _ w.heap.size ([] ++ beB (64 + (q : Int)).toNat 1 ++ beB p.sv.toNat 1 ++ beB ((z : Int) + p.da.length).toNat 2 ++ beB p.id.toNat 2 ++ beB ((fab : Int) + oq).toNat 2 ++ beB p.lf.toNat 1 ++ beB p.pr.toNat 1 ++ beB (s : Int).toNat 2 ++ beB (p.fr : Int).toNat 4 ++ beB (p.to_ : Int).toNat 4 ++ p.op ++ List.replicate (z - 20 - p.op.length) 0) I12.out (by simp [beB_len] <;> (have := OK.out.ol; omega))).mono ?_
  rintro e13 w13 ⟨v, rfl, i13, b13⟩
  go_wp2
  go_ret
  have E : ([] ++ beB (64 + (q : Int)).toNat 1 ++ beB p.sv.toNat 1 ++ beB ((z : Int) + p.da.length).toNat 2 ++ beB p.id.toNat 2 ++ beB ((fab : Int) + oq).toNat 2 ++ beB p.lf.toNat 1 ++ beB p.pr.toNat 1 ++ beB (s : Int).toNat 2 ++ beB (p.fr : Int).toNat 4 ++ beB (p.to_ : Int).toNat 4 ++ p.op ++ List.replicate (z - 20 - p.op.length) 0) = hdr p s := by
    have h1 : (64 + (q : Int)).toNat = 64 + sizeP p.op.length / 4 := by rw [← HZ.out]; have := HQ.out; omega
    have h2 : ((z : Int) + p.da.length).toNat = sizeP p.op.length + p.da.length := by rw [← HZ.out]; omega
    have h3 : ((fab : Int) + oq).toNat = flP p := by rw [← HF.out]; omega
    rw [h1, h2, h3, HZ.out]
    simp [hdr, hd1, hd2]
  rw [E] at i13
  exact ⟨v, rfl, own_base i13 s12, B12.out.trans (b13.mono s12)⟩
end Go.Proofs.YthjpdaflgphbbaaDoor
