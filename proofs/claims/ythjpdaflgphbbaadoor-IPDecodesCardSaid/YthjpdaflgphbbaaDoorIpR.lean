/-
  IP: the reference's header and Encode.
-/
import Derived.Test.YthjpdaflgphbbaaDoorIpEn
import Derived.Test.YthjpdaflgphbbaaDoorIpMa
import Derived.Test.YthjpdaflgphbbaaDoorOctR1
set_option linter.unusedVariables false
namespace Go.Proofs.YthjpdaflgphbbaaDoor
open Go.RowKit

theorem own_bytes {w : World} {base : Nat} {A : Option Addr} {n c : Nat} {l : List UInt8} (h : w.ownsRow base 5 1 (.slice A n c) n (Lib.byteCells l)) : n = l.length ∧ Bytes w A l := by
  have e : n = l.length := by have := h.1; rw [byteCells_len] at this; omega
  subst e
  exact ⟨rfl, Bytes.own h⟩
theorem rtwoR (w : World) (v : Int) (h0 : 0 ≤ v) (h1 : v ≤ 65535) :
    Calls Tryd.prog 58 #[.int .i64 v] w fun e w' => ∃ g, e = .returned (.slice (some ⟨g, 0, none⟩) 2 2) ∧ Bytes w' (some ⟨g, 0, none⟩) (beB v.toNat 2) ∧ Below w.heap.size w w' := by
  refine (rtwo w v h0 h1).mono ?_
  rintro e w' ⟨rfl, rfl⟩
  refine ⟨_, rfl, ?_, al (rf w) _⟩
  refine (own_bytes (base := w.heap.size) (n := 2) (c := 2) ?_).2
  rw [beB_two v h0 h1]
  exact own_lit w #[.int .u8 (v / 256), .int .u8 (v % 256)] 2 rfl (Nat.le_refl _) (by unfold maxLen; omega) rfl
theorem beB_four (v : Int) (h0 : 0 ≤ v) (h1 : v ≤ 4294967295) : Lib.byteCells (beB v.toNat 4) = [.int .u8 (v / 16777216), .int .u8 (v / 65536 % 256), .int .u8 (v / 256 % 256), .int .u8 (v % 256)] := by
  have e1 : ((UInt8.ofNat (v.toNat / 256 ^ 3 % 256)).toNat : Int) = v / 16777216 := by simp only [Nat.reducePow, UInt8.toNat_ofNat']; omega
  have e2 : ((UInt8.ofNat (v.toNat / 256 ^ 2 % 256)).toNat : Int) = v / 65536 % 256 := by simp only [Nat.reducePow, UInt8.toNat_ofNat']; omega
  have e3 : ((UInt8.ofNat (v.toNat / 256 ^ 1 % 256)).toNat : Int) = v / 256 % 256 := by simp only [Nat.reducePow, UInt8.toNat_ofNat']; omega
  have e4 : ((UInt8.ofNat (v.toNat / 256 ^ 0 % 256)).toNat : Int) = v % 256 := by simp only [Nat.reducePow, UInt8.toNat_ofNat']; omega
  simp only [beB, Lib.byteCells, List.map_cons, List.map_nil, e1, e2, e3, e4]
set_option maxHeartbeats 400000 in
theorem rfourR (w : World) (v : Int) (h0 : 0 ≤ v) (h1 : v ≤ 4294967295) :
    Calls Tryd.prog 59 #[.int .u32 v] w fun e w' => ∃ g, e = .returned (.slice (some ⟨g, 0, none⟩) 4 4) ∧ Bytes w' (some ⟨g, 0, none⟩) (beB v.toNat 4) ∧ Below w.heap.size w w' := by
  have b1 : v / 16777216 ≤ 255 := by omega
  have b0 : 0 ≤ v / 16777216 := by omega
  have hown := own_lit (base := w.heap.size) (e := 5) (size := 1) w #[.int .u8 (v / 16777216), .int .u8 (v / 65536 % 256), .int .u8 (v / 256 % 256), .int .u8 (v % 256)] 4 rfl (Nat.le_refl _) (by unfold maxLen; omega) rfl
  have HE := Lib.hid (beB_four v h0 h1)
  have HO := Lib.hid hown; clear hown
  go_enter Tryd.func59, Tryd.ntmps59
  go_wp2
  go_ret
  refine ⟨_, rfl, (own_bytes (base := w.heap.size) (n := 4) (c := 4) ?_).2, al (rf w) _⟩
  rw [HE.out]
  exact HO.out
theorem sumF (A : Option Addr) (c : Nat) (l : List UInt8) (n : Nat) (w : World) (hb : Bytes w A l) (hn : n = l.length) (hl : l.length ≤ 1099511627776) :
    Calls Tryd.prog 52 #[.slice A n c] w fun e w' => e = .returned (.int .i64 (sumB l)) ∧ w' = w := by
  have HC := Lib.hid (partF A c l n w hb hn hl)
  have HS := Lib.hid (sumB_int l)
  have h1 := oc_le (wst l l.length)
  generalize oc (wst l l.length) = q at HC HS h1
  have h2 : (q : Int) ≤ 65535 := by omega
  clear hb hn hl h1
  go_enter Tryd.func52, Tryd.ntmps52
  go_wp2_with fail
  refine HC.out.mono ?_
  rintro e w' ⟨rfl, rfl⟩
  go_wp2
  go_ret
  exact ⟨by rw [← HS.out]; rfl, rfl⟩
theorem own_join {w : World} {base : Nat} {v : Value} {L M : List UInt8} (h : w.ownsRow base 5 1 v (L.length + M.length) (Lib.byteCells L ++ Lib.byteCells M)) : w.ownsRow base 5 1 v (L ++ M).length (Lib.byteCells (L ++ M)) := by
  rw [byteCells_app, List.length_append]; exact h
def hd1a (p : Pk) : List UInt8 := beB (64 + sizeP p.op.length / 4) 1 ++ beB p.sv.toNat 1
theorem beB_one (v : Int) (h0 : 0 ≤ v) (h1 : v ≤ 255) : Lib.byteCells (beB v.toNat 1) = [.int .u8 v] := by
  have e : ((UInt8.ofNat (v.toNat / 256 ^ 0 % 256)).toNat : Int) = v := by simp only [Nat.reducePow, UInt8.toNat_ofNat']; omega
  simp only [beB, Lib.byteCells, List.map_cons, List.map_nil, e]
theorem hdr_set (p : Pk) (s : Nat) (hs : s ≤ 65535) (x y : Value) (hx : x = .int .u8 ((s : Int) / 256)) (hy : y = .int .u8 ((s : Int) % 256)) :
    ((Lib.byteCells (hdr p 0)).set 10 x).set 11 y = Lib.byteCells (hdr p s) := by
  have e1 : (Lib.byteCells (hd1 p)).length = 10 := by rw [byteCells_len, hd1_len]
  have e2 : Lib.byteCells (beB 0 2) = [.int .u8 0, .int .u8 0] := rfl
  have e3 := beB_two (s : Int) (by omega) (by omega)
  rw [Int.toNat_natCast] at e3
  unfold hdr
  rw [byteCells_app, byteCells_app, byteCells_app, byteCells_app, e2, e3, hx, hy]
  generalize Lib.byteCells (hd1 p) = X at e1
  generalize Lib.byteCells (hd2 p) = Y
  simp [e1]
theorem orN (a b : Nat) (ha : a < 2 ^ 62) (hb : b < 2 ^ 62) : bits .or .i64 (a : Int) (b : Int) = ((a ||| b : Nat) : Int) := (bits_nat .i64 62 (by decide) wraps_i64_62 a b ha hb).2
theorem orLo (q : Nat) (h : q < 8192) : q ||| 16384 = q + 16384 ∧ q ||| 8192 = q + 8192 ∧ (q + 16384) ||| 8192 = q + 24576 := by
  have e1 : 2 ^ 13 * 2 + q = 2 ^ 13 * 2 ||| q := Nat.two_pow_add_eq_or_of_lt (i := 13) (by omega) 2
  have e2 : 2 ^ 13 * 1 + q = 2 ^ 13 * 1 ||| q := Nat.two_pow_add_eq_or_of_lt (i := 13) (by omega) 1
  have e3 : 2 ^ 13 * 3 + q = 2 ^ 13 * 3 ||| q := Nat.two_pow_add_eq_or_of_lt (i := 13) (by omega) 3
  have f1 : q ||| 16384 = q + 16384 := by rw [Nat.or_comm]; exact (e1.symm.trans (by omega))
  have f2 : q ||| 8192 = q + 8192 := by rw [Nat.or_comm]; exact (e2.symm.trans (by omega))
  refine ⟨f1, f2, ?_⟩
  rw [← f1, Nat.or_assoc, show (16384 ||| 8192 : Nat) = 24576 from rfl, Nat.or_comm]
  exact e3.symm.trans (by omega)
def remZ (z : Nat) : Value → Nat | .slice _ n _ => z - n | _ => 0
def hd8 (p : Pk) : List UInt8 := hd1 p ++ beB 0 2 ++ beB p.fr 4 ++ beB p.to_ 4 ++ p.op
theorem hd8_hdr (p : Pk) : hd8 p ++ List.replicate (sizeP p.op.length - 20 - p.op.length) 0 = hdr p 0 := by simp [hd8, hdr, hd2]
set_option maxHeartbeats 6400000 in
set_option maxRecDepth 10000 in
theorem rhdrC (w : World) (p : Pk) (o d : Value) (n : Int) (h : IsPk w p o d) (ok : OkP p) (hn : n = p.da.length) :
    Calls Tryd.prog 37 #[.agg (p.cs o d).toArray, .int .i64 n] w fun e w' => ∃ v, e = .returned v ∧ IsRow w w' (hdr p (sumB (hdr p 0))) v := by
  subst hn
  have HH := Lib.hid h
  have B0 := Lib.hid (al (rf w) (.cells (p.cs o d).toArray 26))
  have HB := Lib.hid (Blk.new w 26 (p.cs o d).toArray)
  have HB2 := Lib.hid HB.out
  have HHC := Lib.hid (headC _ p o d (h.nx B0.out))
  obtain ⟨⟨A, c, rfl, hb1, hc1⟩, ⟨B, e, rfl, hb2, hc2⟩, _, hfr, hto, hol, hdl⟩ := h
  have OK := Lib.hid ok; clear ok
  have HBO := Lib.hid hb1
  clear hb1 hb2
  have z1 : sizeP p.op.length ≤ 60 ∧ 20 ≤ sizeP p.op.length ∧ sizeP p.op.length % 4 = 0 ∧ 20 + p.op.length ≤ sizeP p.op.length := by have := OK.out.ol; unfold sizeP; omega
  have z2 : sizeP p.op.length + p.da.length ≤ 65535 := OK.out.len
  obtain ⟨z, hz⟩ : ∃ z, z = sizeP p.op.length := ⟨_, rfl⟩
  rw [← hz] at z1 z2 HHC
  have HZ := Lib.hid hz; clear hz
  unfold Pk.cs at HB
  go_enter Tryd.func37, Tryd.ntmps37
  go_wp2_with ((with_reducible refine wpList_load_blk rfl 26 2 rfl w.heap.size 0 11 (by kernel_rfl) 26 _ (p.cs (.slice A p.op.length c) (.slice B p.da.length e)) HB2.out (by kernel_rfl) _ Tryd.underlying26 (by kernel_rfl) (by kernel_rfl) ?_))
  refine HHC.out.mono ?_
  rintro e1 w1 ⟨rfl, b1⟩
  have B1 := Lib.hid (nx B0.out b1)
  have KP : Hid (∀ w', Below w1.heap.size w1 w' → ∀ i, w'.cell? ⟨w.heap.size, i, none⟩ = (p.cs (.slice A p.op.length c) (.slice B p.da.length e)).toArray[i]?) := fun w' k i => ((HB2.out.nx b1).nx k).cell i
  have s1 := B1.out.size
  clear b1 HHC HB HB2 B0
  have c0 : w1.cell? ⟨w.heap.size, 0, none⟩ = some (.int .i64 p.sv) := KP.out _ (rf w1) 0
  have c2 : w1.cell? ⟨w.heap.size, 2, none⟩ = some (.bool p.wh) := KP.out _ (rf w1) 2
  have c3 : w1.cell? ⟨w.heap.size, 3, none⟩ = some (.bool p.mo) := KP.out _ (rf w1) 3
  have c4 : w1.cell? ⟨w.heap.size, 4, none⟩ = some (.int .i64 p.off) := KP.out _ (rf w1) 4
  obtain ⟨q, hq⟩ : ∃ q : Nat, (q : Int) = p.off / 8 := ⟨(p.off / 8).toNat, by have := OK.out.off; omega⟩
  have q0 : q ≤ 8191 := by have := OK.out.off; omega
  have t1 : p.off.tdiv 8 = (q : Int) := by have := OK.out.off; rw [Int.tdiv_eq_ediv_of_nonneg (by omega)]; omega
  have t2 : (z : Int).tdiv 4 = ((z / 4 : Nat) : Int) := by rw [Int.tdiv_eq_ediv_of_nonneg (by omega)]; omega
  obtain ⟨y, hy⟩ : ∃ y, y = z / 4 := ⟨_, rfl⟩
  rw [← hy] at t2
  have y0 : y ≤ 15 := by omega
  obtain ⟨l1, l2, l3⟩ := orLo q (by omega)
  have r10 : bits .or .i64 (q : Int) 16384 = q + 16384 := by have := orN q 16384 (by omega) (by omega); rw [l1] at this; exact this
  have r01 : bits .or .i64 (q : Int) 8192 = q + 8192 := by have := orN q 8192 (by omega) (by omega); rw [l2] at this; exact this
  have r11 : bits .or .i64 ((q : Int) + 16384) 8192 = q + 24576 := by have := orN (q + 16384) 8192 (by omega) (by omega); rw [l3] at this; exact this
  have wq : IntKind.i64.wrap (q : Int) = q := IntWalk.i64_in _ (by omega)
  have wy : IntKind.i64.wrap (y : Int) = y := IntWalk.i64_in _ (by omega)
  have u1 : IntKind.u8.wrap (64 + (y : Int)) = 64 + y := by rw [IntKind.wrap_u8]; omega
  have u2 : IntKind.u8.wrap p.sv = p.sv := by have := OK.out.sv; rw [IntKind.wrap_u8]; omega
  clear l1 l2 l3
  have HQ := Lib.hid hq; clear hq
  have HY := Lib.hid hy; clear hy
  have HFL : Hid ((flP p : Int) = (if p.wh = true then 16384 else 0) + (if p.mo = true then 8192 else 0) + q) := by
    show _ = _
    unfold flP flA
    have := HQ.out
    have := OK.out.off
    split <;> split <;> omega
  go_wp2_with fail
  focus (
    have hwh : p.wh = true := by assumption
    have hmo : p.mo = true := by assumption
    have hX : (q : Int) + 24576 = (flP p : Nat) := by rw [HFL.out, hwh, hmo]; simp; omega)
  rotate_left
  focus (
    have hwh : p.wh = true := by assumption
    have hmo : p.mo = false := by assumption
    have hX : (q : Int) + 16384 = (flP p : Nat) := by rw [HFL.out, hwh, hmo]; simp; omega)
  rotate_left
  focus (
    have hwh : p.wh = false := by assumption
    have hmo : p.mo = true := by assumption
    have hX : (q : Int) + 8192 = (flP p : Nat) := by rw [HFL.out, hwh, hmo]; simp; omega)
  rotate_left
  focus (
    have hwh : p.wh = false := by assumption
    have hmo : p.mo = false := by assumption
    have hX : (q : Int) = (flP p : Nat) := by rw [HFL.out, hwh, hmo]; simp)
  rotate_left
  all_goals
    have hfp : flP p ≤ 65535 := by omega
    rw [hX]
    obtain ⟨X, hXX⟩ : ∃ X, X = flP p := ⟨_, rfl⟩
    rw [← hXX] at hfp ⊢
    have HX := Lib.hid hXX
    clear hX hXX r10 r01 r11 c2 c3 c4 c0 t1 wq
    have own1 := own_lit (base := w1.heap.size) (e := 5) (size := 1) w1 #[.int .u8 (64 + (y : Int)), .int .u8 p.sv] 2 rfl (Nat.le_refl _) (by unfold maxLen; omega) rfl
    refine (rtwoR _ ((z : Int) + p.da.length) (by omega) (by omega)).mono ?_
    rintro e2 w2 ⟨g2, rfl, y2, b2⟩
    have BB2 : Below w1.heap.size w1 w2 := nx (al (rf w1) _) b2
    have z2' := BB2.size
    have OWN1 := Lib.hid (own_nx own1 b2)
    have Y2 := Lib.hid y2
    clear own1 y2 b2
    go_wp2_with (at_builtin; refine app_any stB rfl (.tmp 30) (.tmp 34) rfl w1.heap.size _ _ _ rfl OWN1.out _ 2 2 (Lib.byteCells (beB ((z : Int) + p.da.length).toNat 2)) rfl Y2.out (by first | exact one_u8 _ | simp [Value.oneCell']) (by omega) (by omega) (by omega) ?_; intro v3 w3 own3 gr3 at3 bel3; have BB3 : Below w1.heap.size w1 w3 := (BB2).trans bel3; have z3 := BB3.size; have c3_1 : w3.cell? ⟨w.heap.size, 1, none⟩ = some (.int .i64 p.id) := KP.out _ BB3 1)
    refine (rtwoR _ p.id (by have := OK.out.id; omega) (by have := OK.out.id; omega)).mono ?_
    rintro e4 w4 ⟨g4, rfl, y4, b4⟩
    have BB4 : Below w1.heap.size w1 w4 := nx BB3 b4
    have z4 := BB4.size
    have OWN4 := Lib.hid (own_nx own3 b4)
    have Y4 := Lib.hid y4
    clear own3 y4 b4 gr3 at3 bel3
    go_wp2_with (at_builtin; refine app_any stB rfl (.tmp 36) (.tmp 39) rfl w1.heap.size _ _ _ rfl OWN4.out _ 2 2 (Lib.byteCells (beB p.id.toNat 2)) rfl Y4.out (by first | exact one_u8 _ | simp [Value.oneCell']) (by omega) (by omega) (by omega) ?_; intro v5 w5 own5 gr5 at5 bel5; have BB5 : Below w1.heap.size w1 w5 := (BB4).trans bel5; have z5 := BB5.size)
    refine (rtwoR _ (X : Int) (by omega) (by omega)).mono ?_
    rintro e6 w6 ⟨g6, rfl, y6, b6⟩
    have BB6 : Below w1.heap.size w1 w6 := nx BB5 b6
    have z6 := BB6.size
    have OWN6 := Lib.hid (own_nx own5 b6)
    have Y6 := Lib.hid y6
    clear own5 y6 b6 gr5 at5 bel5
    have u3 : IntKind.u8.wrap p.lf = p.lf := by have := OK.out.lf; rw [IntKind.wrap_u8]; omega
    have u4 : IntKind.u8.wrap p.pr = p.pr := by have := OK.out.pr; rw [IntKind.wrap_u8]; omega
    go_wp2_with (first
      | (at_builtin; refine app_any stB rfl (.tmp 41) (.tmp 43) rfl w1.heap.size _ _ _ rfl OWN6.out _ 2 2 (Lib.byteCells (beB (X : Int).toNat 2)) rfl Y6.out (by first | exact one_u8 _ | simp [Value.oneCell']) (by omega) (by omega) (by omega) ?_; intro v7 w7 own7 gr7 at7 bel7; have BB7 : Below w1.heap.size w1 w7 := (BB6).trans bel7; have z7 := BB7.size; have c7_5 : w7.cell? ⟨w.heap.size, 5, none⟩ = some (.int .i64 p.lf) := KP.out _ BB7 5; have c7_6 : w7.cell? ⟨w.heap.size, 6, none⟩ = some (.int .i64 p.pr) := KP.out _ BB7 6)
      | (at_builtin; refine app_any stB rfl (.tmp 45) (.tmp 52) rfl w1.heap.size _ _ _ rfl (own7.alloc _) _ 4 4 [.int .u8 p.lf, .int .u8 p.pr, .int .u8 0, .int .u8 0] rfl (Reads.blk (blk_at _ _ _ rfl) rfl rfl) (by first | exact one_u8 _ | simp [Value.oneCell']) (by omega) (by omega) (by simp; omega) ?_; intro v8 w8 own8 gr8 at8 bel8; have BB8 : Below w1.heap.size w1 w8 := (BB7.alloc z7 _).trans bel8; have z8 := BB8.size; have c8_7 : w8.cell? ⟨w.heap.size, 7, none⟩ = some (.int .u32 p.fr) := KP.out _ BB8 7))
    refine (rfourR _ (p.fr : Int) (by omega) (by omega)).mono ?_
    rintro e9 w9 ⟨g9, rfl, y9, b9⟩
    have BB9 : Below w1.heap.size w1 w9 := nx BB8 b9
    have z9 := BB9.size
    have OWN9 := Lib.hid (own_nx own8 b9)
    have Y9 := Lib.hid y9
    clear own8 y9 b9 gr8 at8 bel8
    go_wp2_with (at_builtin; refine app_any stB rfl (.tmp 54) (.tmp 57) rfl w1.heap.size _ _ _ rfl OWN9.out _ 4 4 (Lib.byteCells (beB (p.fr : Int).toNat 4)) rfl Y9.out (by first | exact one_u8 _ | simp [Value.oneCell']) (by omega) (by omega) (by omega) ?_; intro v10 w10 own10 gr10 at10 bel10; have BB10 : Below w1.heap.size w1 w10 := (BB9).trans bel10; have z10 := BB10.size; have c10_8 : w10.cell? ⟨w.heap.size, 8, none⟩ = some (.int .u32 p.to_) := KP.out _ BB10 8)
    refine (rfourR _ (p.to_ : Int) (by omega) (by omega)).mono ?_
    rintro e11 w11 ⟨g11, rfl, y11, b11⟩
    have BB11 : Below w1.heap.size w1 w11 := nx BB10 b11
    have z11 := BB11.size
    have OWN11 := Lib.hid (own_nx own10 b11)
    have Y11 := Lib.hid y11
    clear own10 y11 b11 gr10 at10 bel10
    have HBW := Lib.hid (fun w' (k : Below w1.heap.size w1 w') => HBO.out.nx (nx B1.out k))
    go_wp2_with (first
      | (at_builtin; refine app_any stB rfl (.tmp 59) (.tmp 62) rfl w1.heap.size _ _ _ rfl OWN11.out _ 4 4 (Lib.byteCells (beB (p.to_ : Int).toNat 4)) rfl Y11.out (by first | exact one_u8 _ | simp [Value.oneCell']) (by omega) (by omega) (by omega) ?_; intro v12 w12 own12 gr12 at12 bel12; have BB12 : Below w1.heap.size w1 w12 := (BB11).trans bel12; have z12 := BB12.size; have c12_9 : w12.cell? ⟨w.heap.size, 9, none⟩ = some (.slice A p.op.length c) := KP.out _ BB12 9)
      | (at_builtin; refine app_any stB rfl (.tmp 64) (.tmp 66) rfl w1.heap.size _ _ _ rfl own12 A p.op.length c (Lib.byteCells p.op) rfl (HBW.out _ BB12) (by first | exact one_u8 _ | simp [Value.oneCell']) (by omega) (by omega) (by omega) ?_; intro v13 w13 own13 gr13 at13 bel13; have BB13 : Below w1.heap.size w1 w13 := (BB12).trans bel13; have z13 := BB13.size))
    have OWN13 : Hid (w13.ownsRow w1.heap.size 5 1 v13 (20 + p.op.length + 0) (Lib.byteCells (hd8 p ++ List.replicate 0 0))) := by
      show World.ownsRow _ _ _ _ _ _ _
      have e : Lib.byteCells (hd8 p ++ List.replicate 0 0) = [.int .u8 (64 + (y : Int)), .int .u8 p.sv] ++ Lib.byteCells (beB ((z : Int) + p.da.length).toNat 2) ++ Lib.byteCells (beB p.id.toNat 2) ++ Lib.byteCells (beB (X : Int).toNat 2) ++ [.int .u8 p.lf, .int .u8 p.pr, .int .u8 0, .int .u8 0] ++ Lib.byteCells (beB (p.fr : Int).toNat 4) ++ Lib.byteCells (beB (p.to_ : Int).toNat 4) ++ Lib.byteCells p.op := by
        have h1 : ((z : Int) + p.da.length).toNat = sizeP p.op.length + p.da.length := by rw [← HZ.out]; omega
        have h2 : Lib.byteCells (beB (64 + sizeP p.op.length / 4) 1) = [.int .u8 (64 + (y : Int))] := by
          have := beB_one (64 + (y : Int)) (by omega) (by omega)
          rw [← this, ← HZ.out, ← HY.out]; congr 2
        have h3 := beB_one p.sv OK.out.sv.1 OK.out.sv.2
        have h4 := beB_one p.lf OK.out.lf.1 OK.out.lf.2
        have h5 := beB_one p.pr OK.out.pr.1 OK.out.pr.2
        have h6 : Lib.byteCells (beB 0 2) = [.int .u8 0, .int .u8 0] := rfl
        simp only [hd8, hd1, byteCells_app, h1, h2, h3, h4, h5, h6, Int.toNat_natCast, HX.out]
        simp [Lib.byteCells]
      have e2 : 20 + p.op.length + 0 = 2 + 2 + 2 + 2 + 4 + 4 + 4 + p.op.length := by omega
      rw [e, e2]
      exact own13
    have BB13' := Lib.hid BB13
    clear own13 own12 gr12 at12 bel12 gr13 at13 bel13 BB13
    go_loopw [7] (fun v wr => ∃ k m : Nat, m ≤ z ∧ Hid (m = 20 + p.op.length + k) ∧ Hid (wr.ownsRow w1.heap.size 5 1 v m (Lib.byteCells (hd8 p ++ List.replicate k 0))) ∧ Hid (Below w1.heap.size w1 wr)) (fun v _ => remZ z v)
    case atStart => exact ⟨0, 20 + p.op.length + 0, by omega, rfl, OWN13, BB13'⟩
    case round =>
      obtain ⟨k, m, hk, HMK, OW, BW⟩ := hrel
      obtain ⟨Ak, ck, hv⟩ := own_slice OW.out
      subst hv
      have zw := BW.out.size
      by_cases hlt : m < z
      · have i1 : (m : Int) < z := by omega
        go_wp2_with (at_builtin; refine app_any stB rfl (.tmp 72) (.tmp 73) rfl w1.heap.size _ m _ rfl (OW.out.alloc _) _ 1 1 [.int .u8 0] rfl (Reads.one (blk_at _ _ _ rfl)) (by simp [Value.oneCell']) (by omega) (by omega) (by simp; omega) ?_; intro v14 w14 own14 gr14 at14 bel14; obtain ⟨A14, c14, rfl⟩ := own_slice own14)
        have OWN14 := Lib.hid own14
        have BB14 : Hid (Below w1.heap.size w1 w14) := (BW.out.alloc zw _).trans bel14
        clear own14 gr14 at14 bel14
        go_roundw
        case rel =>
          refine ⟨k + 1, m + 1, by omega, Lib.hid (by have := HMK.out; omega), ?_, BB14⟩
          have h1 := OWN14.out
          have e : Lib.byteCells (hd8 p ++ List.replicate (k + 1) 0) = Lib.byteCells (hd8 p ++ List.replicate k 0) ++ [.int .u8 0] := by
            rw [List.replicate_succ', ← List.append_assoc, byteCells_app]; rfl
          show World.ownsRow _ _ _ _ _ _ _
          rw [e]; exact h1
        case measure => simp [remZ]; omega
      · obtain rfl : m = z := by omega
        have hO : Lib.byteCells (hd8 p ++ List.replicate k 0) = Lib.byteCells (hdr p 0) := by
          rw [← hd8_hdr, ← HZ.out]
          have := HMK.out
          congr 3; omega
        rw [hO] at OW
        have hlen : (hdr p 0).length = m := by rw [hdr_len, HZ.out]
        obtain ⟨g, cap, hv, hgb, hgl, hcap, _, cur, hbk, _, htk⟩ := own_form OW.out (by omega)
        injection hv with hv1 hv2 hv3
        subst hv1 hv3
        have YS : Hid (Bytes wr (some ⟨g, 0, none⟩) (hdr p 0)) := (own_bytes OW.out).2
        have k10 : wr.cell? ⟨g, 10, none⟩ = some (.int .u8 0) := by
          rw [take_cell hbk htk (by omega)]
          have e1 : (Lib.byteCells (hd1 p)).length = 10 := by rw [byteCells_len, hd1_len]
          rw [hdr, byteCells_app, byteCells_app, List.append_assoc, List.getElem?_append_right (by omega), e1]; rfl
        have k11 : wr.cell? ⟨g, 11, none⟩ = some (.int .u8 0) := by
          rw [take_cell hbk htk (by omega)]
          have e1 : (Lib.byteCells (hd1 p)).length = 10 := by rw [byteCells_len, hd1_len]
          rw [hdr, byteCells_app, byteCells_app, List.append_assoc, List.getElem?_append_right (by omega), e1]; rfl
        have f10 := hbk.frozen 10
        have f11 := hbk.frozen 11
        have HSF := Lib.hid (sumF (some ⟨g, 0, none⟩) ck (hdr p 0) m wr YS.out hlen.symm (by omega))
        have hSle : sumB (hdr p 0) ≤ 65535 := by unfold sumB; omega
        have HSET := Lib.hid (hdr_set p (sumB (hdr p 0)) hSle _ _ rfl rfl)
        have HLEN : Hid ((hdr p (sumB (hdr p 0))).length = m) := by show _ = _; rw [hdr_len, HZ.out]
        obtain ⟨S, hS⟩ : ∃ S, S = sumB (hdr p 0) := ⟨_, rfl⟩
        rw [← hS] at HSF hSle HSET HLEN
        have HSS := Lib.hid hS; clear hS
        have u5 : IntKind.u8.wrap ((S : Int) / 256) = S / 256 := by rw [IntKind.wrap_u8]; omega
        have u6 : IntKind.u8.wrap (S : Int) = S % 256 := by rw [IntKind.wrap_u8]
        have i1 : ¬ (m : Int) < m := by omega
        have i10 : (10 : Int) < m := by omega
        have i11 : (11 : Int) < m := by omega
        clear hbk htk hlen hO
        go_wp2_with (go_at_call 52; refine HSF.out.mono ?_; rintro e15 w15 ⟨rfl, rfl⟩)
        go_ret
        have ST1 := (World.ownsRow.stored OW.out 10 (.int .u8 ((S : Int) / 256))).1
        have ST2 := (World.ownsRow.stored ST1 11 (.int .u8 ((S : Int) % 256))).1
        rw [HSET.out] at ST2
        rw [← HSS.out]
        refine ⟨_, rfl, ?_, ?_⟩
        · rw [HLEN.out]; exact own_base ST2 s1
        · exact nx B1.out ((BW.out.setCell (p := ⟨g, 10, none⟩) hgb _).setCell (p := ⟨g, 11, none⟩) hgb _)
end Go.Proofs.YthjpdaflgphbbaaDoor
