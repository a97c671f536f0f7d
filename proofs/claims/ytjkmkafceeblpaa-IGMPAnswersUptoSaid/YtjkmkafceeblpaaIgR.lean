/-
  Groups: the reference's Encode and Decode.
-/
import Derived.Test.YtjkmkafceeblpaaIgD
import Derived.Test.YtjkmkafceeblpaaGet4
set_option linter.unusedVariables false
namespace Go.Proofs.Ytjkmkafceeblpaa
open Go.RowKit

theorem ig_own {w : World} {base : Nat} {A : Option Addr} {n c : Nat} {l : List UInt8} (h : w.ownsRow base 5 1 (.slice A n c) n (Lib.byteCells l)) : n = l.length ∧ Bytes w A l := by
  have e : n = l.length := by have := h.1; rw [byteCells_len] at this; omega
  subst e
  exact ⟨rfl, Bytes.own h⟩
theorem igB_four (v : Int) (h0 : 0 ≤ v) (h1 : v ≤ 4294967295) : Lib.byteCells (beB v.toNat 4) = [.int .u8 (v / 16777216), .int .u8 (v / 65536 % 256), .int .u8 (v / 256 % 256), .int .u8 (v % 256)] := by
  have e1 : ((UInt8.ofNat (v.toNat / 256 ^ 3 % 256)).toNat : Int) = v / 16777216 := by simp only [Nat.reducePow, UInt8.toNat_ofNat']; omega
  have e2 : ((UInt8.ofNat (v.toNat / 256 ^ 2 % 256)).toNat : Int) = v / 65536 % 256 := by simp only [Nat.reducePow, UInt8.toNat_ofNat']; omega
  have e3 : ((UInt8.ofNat (v.toNat / 256 ^ 1 % 256)).toNat : Int) = v / 256 % 256 := by simp only [Nat.reducePow, UInt8.toNat_ofNat']; omega
  have e4 : ((UInt8.ofNat (v.toNat / 256 ^ 0 % 256)).toNat : Int) = v % 256 := by simp only [Nat.reducePow, UInt8.toNat_ofNat']; omega
  simp only [beB, Lib.byteCells, List.map_cons, List.map_nil, e1, e2, e3, e4]
set_option maxHeartbeats 400000 in
theorem ig_rfour (w : World) (v : Int) (h0 : 0 ≤ v) (h1 : v ≤ 4294967295) :
    Calls Try.prog 42 #[.int .u32 v] w fun e w' => ∃ g, e = .returned (.slice (some ⟨g, 0, none⟩) 4 4) ∧ w'.ownsRow w.heap.size 5 1 (.slice (some ⟨g, 0, none⟩) 4 4) 4 (Lib.byteCells (beB v.toNat 4)) ∧ Below w.heap.size w w' := by
  have b1 : v / 16777216 ≤ 255 := by omega
  have b0 : 0 ≤ v / 16777216 := by omega
  have hown := own_lit (base := w.heap.size) (e := 5) (size := 1) w #[.int .u8 (v / 16777216), .int .u8 (v / 65536 % 256), .int .u8 (v / 256 % 256), .int .u8 (v % 256)] 4 rfl (Nat.le_refl _) (by unfold maxLen; omega) rfl
  have HE := Lib.hid (igB_four v h0 h1)
  have HO := Lib.hid hown; clear hown
  go_enter Try.func42, Try.ntmps42
  go_wp2
  go_ret
  rw [HE.out]
  exact ⟨_, rfl, HO.out, al (rf w) _⟩
set_option maxHeartbeats 800000 in
theorem ig_rsum (A : Option Addr) (c : Nat) (l : List UInt8) (n : Nat) (w : World) (hb : Bytes w A l) (hn : n = l.length) (hl : l.length ≤ 1099511627776) :
    Calls Try.prog 30 #[.slice A n c] w fun e w' => e = .returned (.int .i64 (sumB l)) ∧ w' = w := by
  have HC := Lib.hid (partF A c l n w hb hn hl)
  have HS := Lib.hid (sumB_int l)
  have h1 := oc_le (wst l l.length)
  generalize oc (wst l l.length) = o at HC HS h1
  have h2 : (o : Int) ≤ 65535 := by omega
  clear hb hn hl h1
  go_enter Try.func30, Try.ntmps30
  go_wp2_with fail
  refine HC.out.mono ?_
  rintro e w1 ⟨rfl, rfl⟩
  go_wp2
  go_ret
  exact ⟨by rw [← HS.out]; rfl, rfl⟩
set_option maxHeartbeats 800000 in
theorem igREncBad (w : World) (ty mx gr : Int) (h : ty < 0 ∨ 255 < ty ∨ mx < 0 ∨ 255 < mx) :
    Calls Try.prog 18 #[.agg #[.int .i64 ty, .int .i64 mx, .int .u32 gr]] w fun e w' => e = .returned (.tuple #[.slice none 0 0, .int .i64 1]) ∧ Below w.heap.size w w' := by
  have HH := Lib.hid h
  clear h
  by_cases h1 : ty < 0
  · go_enter Try.func18, Try.ntmps18
    go_wp2
    refine bodyPost_ret (results_tmp2 rfl _ _ _) rfl ?_
    exact ⟨rfl, al (rf w) _⟩
  by_cases h2 : 255 < ty
  · go_enter Try.func18, Try.ntmps18
    go_wp2
    refine bodyPost_ret (results_tmp2 rfl _ _ _) rfl ?_
    exact ⟨rfl, al (rf w) _⟩
  by_cases h3 : mx < 0
  · go_enter Try.func18, Try.ntmps18
    go_wp2
    refine bodyPost_ret (results_tmp2 rfl _ _ _) rfl ?_
    exact ⟨rfl, al (rf w) _⟩
  have h4 : 255 < mx := by have := HH.out; omega
  go_enter Try.func18, Try.ntmps18
  go_wp2
  refine bodyPost_ret (results_tmp2 rfl _ _ _) rfl ?_
  exact ⟨rfl, al (rf w) _⟩
theorem igB_cells (ty mx gr : Int) (s : Nat) (t0 : 0 ≤ ty) (t1 : ty ≤ 255) (m0 : 0 ≤ mx) (m1 : mx ≤ 255) (hs : s ≤ 65535) :
    Lib.byteCells (igB ty mx gr s) = [.int .u8 ty, .int .u8 mx, .int .u8 ((s : Int) / 256), .int .u8 ((s : Int) % 256)] ++ Lib.byteCells (beB gr.toNat 4) := by
  have e1 : ((UInt8.ofNat (ty.toNat / 256 ^ 0 % 256)).toNat : Int) = ty := by simp only [Nat.reducePow, UInt8.toNat_ofNat']; omega
  have e2 : ((UInt8.ofNat (mx.toNat / 256 ^ 0 % 256)).toNat : Int) = mx := by simp only [Nat.reducePow, UInt8.toNat_ofNat']; omega
  have e3 : ((UInt8.ofNat (s / 256 ^ 1 % 256)).toNat : Int) = (s : Int) / 256 := by simp only [Nat.reducePow, UInt8.toNat_ofNat']; omega
  have e4 : ((UInt8.ofNat (s / 256 ^ 0 % 256)).toNat : Int) = (s : Int) % 256 := by simp only [Nat.reducePow, UInt8.toNat_ofNat']; omega
  unfold igB
  rw [byteCells_app]
  congr 1
  simp only [beB, Lib.byteCells, List.map_cons, List.map_nil, List.cons_append, List.nil_append, e1, e2, e3, e4]
theorem four_app (a b c d x y : Value) (Y : List Value) (i : Nat) (h2 : i ≠ 2) (h3 : i ≠ 3) : ([a, b, c, d] ++ Y)[i]? = ([a, b, x, y] ++ Y)[i]? := by
  match i, h2, h3 with
  | 0, _, _ => rfl
  | 1, _, _ => rfl
  | 2, h, _ => exact absurd rfl h
  | 3, _, h => exact absurd rfl h
  | i + 4, _, _ => simp
theorem ig_stored {w : World} {g : Nat} {cur : Array Value} {ty mx gr : Int} (s : Nat) (BG : Blk w g 5 cur) (hct : cur.toList.take 8 = Lib.byteCells (igB ty mx gr 0)) (hcs : 8 ≤ cur.size) (t0 : 0 ≤ ty) (t1 : ty ≤ 255) (m0 : 0 ≤ mx) (m1 : mx ≤ 255) (hs : s ≤ 65535) :
    Bytes ((w.setCell ⟨g, 2, none⟩ (.int .u8 ((s : Int) / 256))).setCell ⟨g, 3, none⟩ (.int .u8 ((s : Int) % 256))) (some ⟨g, 0, none⟩) (igB ty mx gr s) := by
  refine blk_bytes ((BG.set_ 2 (.int .u8 ((s : Int) / 256))).set_ 3 (.int .u8 ((s : Int) % 256))) 0 _ (fun i hi => ?_)
  have h8 := igB_len ty mx gr s
  rw [← byteCells_at _ i hi, igB_cells ty mx gr s t0 t1 m0 m1 hs, Nat.zero_add]
  by_cases h3 : i = 3
  · subst h3
    rw [Array.getElem?_setIfInBounds_self_of_lt (by rw [Array.size_setIfInBounds]; omega)]; rfl
  · rw [Array.getElem?_setIfInBounds_ne (by omega)]
    by_cases h2 : i = 2
    · subst h2
      rw [Array.getElem?_setIfInBounds_self_of_lt (by omega)]; rfl
    · rw [Array.getElem?_setIfInBounds_ne (by omega)]
      have h4 := take_cell BG hct (j := i) (by omega)
      rw [BG.cell, igB_cells ty mx gr 0 t0 t1 m0 m1 (by omega)] at h4
      rw [h4]
      exact four_app _ _ _ _ _ _ _ i h2 h3
theorem igRS {w w' : World} {x : Nat} {ty mx gr : Int} (hh : Blk w x 27 #[.int .i64 ty, .int .i64 mx, .int .u32 gr]) (k : Below w.heap.size w w') :
    (w'.cell? ⟨x, 0, none⟩ = some (.int .i64 ty) ∧ w'.cell? ⟨x, 1, none⟩ = some (.int .i64 mx) ∧ w'.cell? ⟨x, 2, none⟩ = some (.int .u32 gr)) ∧ Below w.heap.size w w' :=
  ⟨⟨(hh.nx k).cell 0, (hh.nx k).cell 1, (hh.nx k).cell 2⟩, k⟩
set_option maxHeartbeats 1600000 in
theorem igREncOk (w : World) (ty mx gr : Int) (t0 : 0 ≤ ty) (t1 : ty ≤ 255) (m0 : 0 ≤ mx) (m1 : mx ≤ 255) (g0 : 0 ≤ gr) (g1 : gr ≤ 4294967295) :
    Calls Try.prog 18 #[.agg #[.int .i64 ty, .int .i64 mx, .int .u32 gr]] w fun e w' => ∃ A c, e = .returned (.tuple #[.slice A 8 c, .int .i64 0]) ∧ Bytes w' A (igL ty mx gr) ∧ Below w.heap.size w w' := by
  have BX := Lib.hid (Blk.new w 27 #[.int .i64 ty, .int .i64 mx, .int .u32 gr])
  have t2 : ty % 256 = ty := by omega
  have m2 : mx % 256 = mx := by omega
  have B0 := Lib.hid (al (rf w) (.cells #[.int .i64 ty, .int .i64 mx, .int .u32 gr] 27))
  go_enter Try.func18, Try.ntmps18
  go_wp2
  generalize w.alloc (.cells #[.int .i64 ty, .int .i64 mx, .int .u32 gr] 27) = W1 at BX B0 ⊢
  have wt : IntKind.u8.wrap ty = ty := by rw [IntKind.wrap_u8]; omega
  have wm : IntKind.u8.wrap mx = mx := by rw [IntKind.wrap_u8]; omega
  have tok1 : True := trivial
  go_region_held3 (fun w' => (w'.cell? ⟨w.heap.size, 0, none⟩ = some (.int .i64 ty) ∧ w'.cell? ⟨w.heap.size, 1, none⟩ = some (.int .i64 mx) ∧ w'.cell? ⟨w.heap.size, 2, none⟩ = some (.int .u32 gr)) ∧ Below W1.heap.size W1 w')
    ((refine igRS BX.out ?_; with_reducible (first | exact And.right (by assumption) | exact (rf W1).drew | exact (al (rf W1) _).drew | exact nx (And.right (by assumption)) b3 | exact al (And.right (by assumption)) _ | exact Below.trans (And.right (by assumption)) bel4 | fail)))
    (first
      | (go_at_call 42; have _t := tok1; refine (ig_rfour _ gr g0 g1).mono ?_; rintro e w3 ⟨g3, rfl, o3, b3⟩; clear tok1 _t; have z13 : W1.heap.size ≤ w3.heap.size := Nat.le_trans (Below.size (And.right (by assumption))) b3.size)
      | (refine step_app stB rfl (.tmp 30) (.tmp 33) rfl W1.heap.size _ 4 [.int .u8 ty, .int .u8 mx, .int .u8 0, .int .u8 0] rfl (by first | exact own_nx (show World.ownsRow (W1.alloc (.cells #[.int .u8 ty, .int .u8 mx, .int .u8 0, .int .u8 0] 5)).drew W1.heap.size 5 1 _ 4 _ from own_lit (base := W1.heap.size) W1 #[.int .u8 ty, .int .u8 mx, .int .u8 0, .int .u8 0] 4 rfl (Nat.le_refl _) (by unfold maxLen; omega) rfl) b3 | exact own_lit (base := W1.heap.size) w3 #[.int .u8 ty, .int .u8 mx, .int .u8 0, .int .u8 0] 4 rfl z13 (by unfold maxLen; omega) rfl) _ 4 4 (Lib.byteCells (beB gr.toNat 4)) rfl (by first | exact (ig_own o3).2 | exact Bytes.al (ig_own o3).2 _) (one_u8 _) (by omega) (by omega) (by first | exact z13 | exact Nat.le_trans z13 (by simp)) ?_; intro v4 w4 own4 gr4 at4 bel4)
      | fail)
  all_goals
    have B4 : Hid (Below W1.heap.size W1 w4) := by
      first
        | exact (nx ((al (rf W1) _).drew) b3).trans bel4
        | exact (al (nx ((rf W1).drew) b3) _).trans bel4
    have e4 : [Value.int .u8 ty, .int .u8 mx, .int .u8 0, .int .u8 0] ++ Lib.byteCells (beB gr.toNat 4) = Lib.byteCells (igB ty mx gr 0) := (igB_cells ty mx gr 0 t0 t1 m0 m1 (by omega)).symm
    rw [e4] at own4
    clear e4 gr4 at4 bel4 b3 o3 z13 wt wm
    obtain ⟨g, cap, rfl, hg, hg2, hcap, hcm, cur, BG, hcs, hct⟩ := own_form own4 (by omega)
    have R4 := (ig_own (n := 8) own4).2
    have ST := Lib.hid (ig_stored (igS ty mx gr) BG hct (by omega) t0 t1 m0 m1 (igS_le ty mx gr))
    have hs := igS_le ty mx gr
    have f2 := BG.frozen 2
    have f3 := BG.frozen 3
    obtain ⟨u2, c2⟩ : ∃ u, w4.cell? ⟨g, 2, none⟩ = some u := ⟨cur[2]'(by omega), by rw [BG.cell]; exact Array.getElem?_eq_getElem (by omega)⟩
    obtain ⟨u3, c3⟩ : ∃ u, w4.cell? ⟨g, 3, none⟩ = some u := ⟨cur[3]'(by omega), by rw [BG.cell]; exact Array.getElem?_eq_getElem (by omega)⟩
    have hss : sumB (igB ty mx gr 0) = igS ty mx gr := rfl
    have HSS := Lib.hid hss; clear hss
    have B5 : Hid (Below w.heap.size w ((w4.setCell ⟨g, 2, none⟩ (.int .u8 ((igS ty mx gr : Nat) / 256))).setCell ⟨g, 3, none⟩ (.int .u8 ((igS ty mx gr : Nat) % 256)))) :=
      ((nx B0.out B4.out).setCell (p := ⟨g, 2, none⟩) (Nat.le_trans B0.out.size hg) _).setCell (p := ⟨g, 3, none⟩) (Nat.le_trans B0.out.size hg) _
    generalize igS ty mx gr = s at ST hs HSS B5
    have HBG := Lib.hid BG
    clear own4 BG hct hcs
    go_wp2_with fail
    refine (ig_rsum _ cap (igB ty mx gr 0) 8 _ R4 (igB_len _ _ _ _).symm (by rw [igB_len]; omega)).mono ?_
    rintro e w5 ⟨rfl, rfl⟩
    rw [HSS.out]
    clear R4
    go_wp2
    refine bodyPost_ret (results_tmp2 rfl _ _ _) rfl ?_
    exact ⟨_, cap, rfl, by unfold igL; have e : igS ty mx gr = s := HSS.out; rw [e]; exact ST.out, B5.out⟩
set_option maxHeartbeats 800000 in
theorem igRDecBad (A : Option Addr) (l : List UInt8) (c : Nat) (w : World) (hb : Bytes w A l) (hl : l.length ≤ 1000000) (x : Int) (hx : (l.length < 8 ∧ x = 2) ∨ (8 ≤ l.length ∧ sumB l ≠ 0 ∧ x = 4)) :
    Calls Try.prog 11 #[.slice A l.length c] w fun e w' => e = .returned (.tuple #[.agg #[.int .i64 0, .int .i64 0, .int .u32 0], .int .i64 x]) ∧ Below w.heap.size w w' := by
  have Z := Blk.new w 27 #[.int .i64 0, .int .i64 0, .int .u32 0]
  rcases hx with ⟨h8, rfl⟩ | ⟨h8, hs, rfl⟩
  · have i8 : (l.length : Int) < 8 := by omega
    have HZ := Lib.hid Z
    clear Z
    go_enter Try.func11, Try.ntmps11
    go_wp2_with (refine wpList_store_row rfl 27 (.tmp 2) (.tmp 7) rfl _ #[.int .i64 0, .int .i64 0, .int .u32 0] rfl rfl _ _ HZ.out (by kernel_rfl) rfl (by kernel_rfl) ?_)
    exact bodyPost_ret (v := .tuple #[.agg #[.int .i64 0, .int .i64 0, .int .u32 0], .int .i64 2]) ((run_results_cell_tmp rfl _ _ _ _ _ _ _ rfl (setRow_heap _ _ _ _ _ _ HZ.out) Try.underlying27 rfl (by kernel_rfl)).trans rfl) rfl ⟨rfl, below_setRow (al (rf w) _) (Nat.le_refl _) _⟩
  · have i8 : ¬ (l.length : Int) < 8 := by omega
    have is : ((sumB l : Int) != 0) = true := by rw [bne_iff_ne]; omega
    have HZ := Lib.hid Z
    clear Z hs
    go_enter Try.func11, Try.ntmps11
    go_wp2_with fail
    refine (ig_rsum A c l _ _ (hb.al _) rfl (by omega)).mono ?_
    rintro e w1 ⟨rfl, rfl⟩
    go_wp2_with (refine wpList_store_row rfl 27 (.tmp 2) (.tmp 11) rfl _ #[.int .i64 0, .int .i64 0, .int .u32 0] rfl rfl _ _ HZ.out (by kernel_rfl) rfl (by kernel_rfl) ?_)
    exact bodyPost_ret (v := .tuple #[.agg #[.int .i64 0, .int .i64 0, .int .u32 0], .int .i64 4]) ((run_results_cell_tmp rfl _ _ _ _ _ _ _ rfl (setRow_heap _ _ _ _ _ _ HZ.out) Try.underlying27 rfl (by kernel_rfl)).trans rfl) rfl ⟨rfl, below_setRow (al (rf w) _) (Nat.le_refl _) _⟩
theorem take1 (l : List UInt8) (k : Nat) (h : k < l.length) : beN ((l.drop k).take 1) = l[k].toNat := by
  rw [List.drop_eq_getElem_cons (i := k) h, List.take_succ_cons, List.take_zero]; simp [beN]
theorem igDS {W w' : World} {x : Nat} {ad : Addr} {u v : Value} (h0 : W.cell? ad = some u) (h1 : W.cell? ⟨ad.block, ad.off + 1, none⟩ = some v) (hlt : ad.block < W.heap.size) (hne : ad.block ≠ x) (k : W.grownBy w' (some x)) :
    (w'.cell? ad = some u ∧ w'.cell? ⟨ad.block, ad.off + 1, none⟩ = some v) ∧ W.grownBy w' (some x) := by
  have hb := k.block ad.block hlt (by intro e; injection e with e; exact hne e)
  exact ⟨⟨(World.cell?_of_block (a := ad) hb).trans h0, (World.cell?_of_block (a := ⟨ad.block, ad.off + 1, none⟩) hb).trans h1⟩, k⟩
set_option maxHeartbeats 1600000 in
theorem igRDecOk (A : Option Addr) (l : List UInt8) (c : Nat) (w : World) (hb : Bytes w A l) (hl : l.length ≤ 1000000) (h8 : 8 ≤ l.length) (hs : sumB l = 0) (p q r : Nat) (hp : Hid (beN (l.take 1) = p)) (hq : Hid (beN ((l.drop 1).take 1) = q)) (hr : Hid (beN ((l.drop 4).take 4) = r)) :
    Calls Try.prog 11 #[.slice A l.length c] w fun e w' => e = .returned (.tuple #[.agg #[.int .i64 p, .int .i64 q, .int .u32 r], .int .i64 0]) ∧ Below w.heap.size w w' := by
  have Z := Lib.hid (Blk.new w 27 #[.int .i64 0, .int .i64 0, .int .u32 0])
  have i8 : ¬ (l.length : Int) < 8 := by omega
  have is : ((sumB l : Int) != 0) = false := by rw [hs]; rfl
  have B0 := Lib.hid (al (rf w) (.cells #[.int .i64 0, .int .i64 0, .int .u32 0] 27))
  have HB := Lib.hid (hb.al (.cells #[.int .i64 0, .int .i64 0, .int .u32 0] 27))
  obtain ⟨ad, rfl, hlo, _⟩ := hb.at_ (show 0 < l.length by omega)
  clear hs hb
  go_enter Try.func11, Try.ntmps11
  go_wp2_with fail
  refine (ig_rsum (some ad) c l _ _ HB.out rfl (by omega)).mono ?_
  rintro e w1 ⟨rfl, rfl⟩
  go_wp2_with fail
  generalize w.alloc (.cells #[.int .i64 0, .int .i64 0, .int .u32 0] 27) = W1 at Z B0 HB ⊢
  obtain ⟨bd, hbd, hlw, hc0⟩ := HB.out.at_ (show 0 < l.length by omega)
  injection hbd with hbd; subst hbd
  obtain ⟨bd, hbd, _, hc1⟩ := HB.out.at_ (show 1 < l.length by omega)
  injection hbd with hbd; subst hbd
  have hp2 := hp.out
  have hq2 := hq.out
  rw [show l.take 1 = (l.drop 0).take 1 from rfl, take1 l 0 (by omega)] at hp2
  rw [take1 l 1 (by omega)] at hq2
  rw [hp2] at hc0
  rw [hq2] at hc1
  have p0 : p < 256 := by rw [← hp2]; have := l[0].toNat_lt; omega
  have q0 : q < 256 := by rw [← hq2]; have := l[1].toNat_lt; omega
  clear hp2 hq2 hp hq is
  have HC0 : Hid (W1.cell? ad = some (.int .u8 p)) := by show _ = _; rw [← hc0, Addr.add, if_pos rfl]
  have HC1 : Hid (W1.cell? ⟨ad.block, ad.off + 1, none⟩ = some (.int .u8 q)) := by show _ = _; rw [← hc1, Addr.add, if_neg (by omega)]
  clear hc0 hc1
  have e5 : 0 < l.length := by omega
  have hne : ad.block ≠ w.heap.size := by omega
  have e1 : IntKind.i64.wrap (p : Int) = p := IntWalk.i64_in _ (by omega)
  have e2 : IntKind.i64.wrap (q : Int) = q := IntWalk.i64_in _ (by omega)
  have e3 : (0 : Int) < l.length := by omega
  have e4 : (1 : Int) < l.length := by omega
  go_region_held3 (fun w' => (w'.cell? ad = some (.int .u8 p) ∧ w'.cell? ⟨ad.block, ad.off + 1, none⟩ = some (.int .u8 q)) ∧ W1.grownBy w' (some w.heap.size))
    ((refine igDS HC0.out HC1.out hlw hne ?_; with_reducible (first | exact And.right (by assumption) | exact only_drew (World.grownBy.refl W1 _) | exact gr3 | exact only_setCell (only_setCell (only_setCell gr3 (.inl rfl) _) (.inl rfl) _) (.inl rfl) _ | fail)))
    (first
      | (go_at_call 31; refine (get4 _ (some ad) l _ c 4 4 (HB.out.nx (rf W1).drew) rfl rfl (by omega) (by omega)).mono ?_; rintro e w3 ⟨rfl, m, hw3⟩
         have b3 : Below W1.heap.size W1 w3 := by rw [hw3]; exact dn (rf W1).drew m
         have gr3 : W1.grownBy w3 (some w.heap.size) := only_of b3
         have Z3 := Z.out.nx b3
         have k0 : w3.cell? ⟨w.heap.size, 0, none⟩ = some (.int .i64 0) := Z3.cell 0
         have k1 : w3.cell? ⟨w.heap.size, 1, none⟩ = some (.int .i64 0) := Z3.cell 1
         have k2 : w3.cell? ⟨w.heap.size, 2, none⟩ = some (.int .u32 0) := Z3.cell 2
         have f0 := Z3.frozen 0
         have f1 := Z3.frozen 1
         have f2 := Z3.frozen 2
         have HW3 := Lib.hid hw3; clear hw3)
      | fail)
  rw [hr.out]
  have Z6 : Hid (Blk (((w3.setCell ⟨w.heap.size, 0, none⟩ (.int .i64 p)).setCell ⟨w.heap.size, 1, none⟩ (.int .i64 q)).setCell ⟨w.heap.size, 2, none⟩ (.int .u32 r)) w.heap.size 27 #[.int .i64 p, .int .i64 q, .int .u32 r]) := ((Z3.set_ 0 (.int .i64 p)).set_ 1 (.int .i64 q)).set_ 2 (.int .u32 r)
  have B6 : Hid (Below w.heap.size w (((w3.setCell ⟨w.heap.size, 0, none⟩ (.int .i64 p)).setCell ⟨w.heap.size, 1, none⟩ (.int .i64 q)).setCell ⟨w.heap.size, 2, none⟩ (.int .u32 r))) :=
    (((nx B0.out b3).setCell (p := ⟨w.heap.size, 0, none⟩) (Nat.le_refl _) _).setCell (p := ⟨w.heap.size, 1, none⟩) (Nat.le_refl _) _).setCell (p := ⟨w.heap.size, 2, none⟩) (Nat.le_refl _) _
  clear k0 k1 k2 f0 f1 f2 Z3 b3 gr3 e1 e2
  generalize (((w3.setCell ⟨w.heap.size, 0, none⟩ (.int .i64 p)).setCell ⟨w.heap.size, 1, none⟩ (.int .i64 q)).setCell ⟨w.heap.size, 2, none⟩ (.int .u32 r)) = W6 at Z6 B6 ⊢
  go_wp2
  exact bodyPost_ret (v := .tuple #[.agg #[.int .i64 p, .int .i64 q, .int .u32 r], .int .i64 0]) ((run_results_cell_tmp rfl _ _ _ _ _ _ _ rfl Z6.out Try.underlying27 rfl (by kernel_rfl)).trans rfl) rfl ⟨rfl, B6.out⟩
end Go.Proofs.Ytjkmkafceeblpaa
