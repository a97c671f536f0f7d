/-
  IP: the reference's Decode behind the header's sum.
-/
import Derived.Test.YthjpdaflgphbbaaDoorIpRd
import Derived.Test.YthjpdaflgphbbaaDoorNwt
import Derived.Maps.RangeWalk
set_option linter.unusedVariables false
namespace Go.Proofs.YthjpdaflgphbbaaDoor
open Go.RowKit

-- what the reference's Decode hands out
def RDecR (l : List UInt8) (w : World) (e : Ending) (w' : World) : Prop :=
  (decG l = 0 ∧ ∃ o d, e = .returned (.tuple #[.agg ((decPk l).cs o d).toArray, .int .i64 0]) ∧ IsPk w' (decPk l) o d ∧ Below w.heap.size w w') ∨
  (decG l ≠ 0 ∧ e = .returned (.tuple #[.agg zCs.toArray, .int .i64 (decG l)]) ∧ Below w.heap.size w w')
theorem decG_ref (l : List UInt8) (hx : decF l = 0) (h15 : ¬ 32768 ≤ bitsF l) (hg : gd (decPk l).op 0 = true) : decG l = if (65535 - nF l : Int) < (bitsF l % 8192 * 8 : Nat) + wlF l - nF l then 5 else 0 := by
  obtain ⟨h20, hv4, hq20, hql, hqw, hwl, hsm⟩ := decF_ok hx
  have hq : nF l ≤ 60 ∧ nF l % 4 = 0 := by unfold nF; omega
  have hwb : wlF l < 65536 := by
    have := beN_lt ((l.drop 2).take 2)
    have h2 : ((l.drop 2).take 2).length = 2 := by rw [List.length_take, List.length_drop]; omega
    rw [h2] at this
    exact this
  have ho : (decPk l).op.length = nF l - 20 := by
    show ((l.drop 20).take (nF l - 20)).length = _
    rw [List.length_take, List.length_drop]; omega
  have hd : (decPk l).da.length = wlF l - nF l := by
    show ((l.drop (nF l)).take (wlF l - nF l)).length = _
    rw [List.length_take, List.length_drop]; omega
  have hoff : (decPk l).off = ((bitsF l % 8192 * 8 : Nat) : Int) := rfl
  have hz : sizeP (nF l - 20) = nF l := by unfold sizeP; omega
  unfold decG
  rw [if_neg (by simp [hg]; omega)]
  have hi : inP (decPk l) = decide (¬ (65535 - nF l : Int) < (bitsF l % 8192 * 8 : Nat) + wlF l - nF l) := by
    unfold inP
    rw [ho, hd, hoff, hz]
    generalize bitsF l % 8192 * 8 = z
    by_cases h : (65535 - nF l : Int) < (z : Nat) + wlF l - nF l
    · have h1 : ¬ ((z : Nat) : Int) + (wlF l - nF l : Nat) ≤ 65535 - (nF l : Int) := by omega
      simp [h]; omega
    · have h1 : ((z : Nat) : Int) + (wlF l - nF l : Nat) ≤ 65535 - (nF l : Int) := by omega
      simp [h]; omega
  rw [hi]
  by_cases h : (65535 - nF l : Int) < (bitsF l % 8192 * 8 : Nat) + wlF l - nF l
  · rw [if_pos h, if_pos (by rw [decide_eq_false_iff_not]; exact fun k => k h)]
  · rw [if_neg h, if_neg (by rw [decide_eq_false_iff_not]; exact fun k => k h)]
theorem wpList_cutG {P : Program} {ops : Array Oper} {rest : List Oper} {op : Oper} {a : Act} {w : World} {Q : Exit → Act → World → Prop} (hw : Region.wanted op (yielded ops a.tmps) = true) (t : TypeId) (x lo hi : Operand) (ho : op.op = .slice t x (some lo) (some hi) none) (ht : P.underlying t = some (.slice (P.elem t))) (hsz : ∀ w, (sizeOf (P.elem t)).run P w = .ok 1 w)
    (A : Option Addr) (n c l h : Nat) (kl kh : IntKind) (hx : a.eval x = .slice A n c) (hlo : a.eval lo = .int kl l) (hhi : a.eval hi = .int kh h) (h1 : l ≤ h) (h2 : h ≤ c) (hk : wpList P ops Q rest (a.put op.dst (.slice (cutA A c l) (h - l) (c - l))) w) : wpList P ops Q (op :: rest) a w :=
  BigFrame.wpList_want hw fun K hK => by
    unfold Oper.wp execOp
    have e : sliced A (l : Int).toNat (h : Int).toNat c 1 = .slice (cutA A c l) (h - l) (c - l) := by simp [sliced, cutA]
    simp only [ho, Option.map, hx, hlo, hhi, Go.run_sliceAt_slice w t _ _ _ _ ht, Go.run_slice_lh w t A n c ht kl kh (l : Int) (h : Int) (by omega) (by omega) (by omega), hsz, Sem.run_bind, Sem.run_pure, Result.andThen_ok, e, Oper.upon]
    exact hK _ _ hk
theorem beN_one (l : List UInt8) (k : Nat) (h : k < l.length) : beN ((l.drop k).take 1) = (l.getD k 0).toNat := by
  have e : (l.drop k).take 1 = [l[k]] := by
    rw [List.drop_eq_getElem_cons h]; rfl
  rw [e, List.getD_eq_getElem?_getD, List.getElem?_eq_getElem h]
  simp [beN]
theorem below_gw {w w4 v : World} (h : Below w.heap.size w w4) (k : w4.grownBy v (some w.heap.size)) : Below w.heap.size w v :=
  ⟨k.os.trans h.os, k.tape.trans h.tape, k.output.trans h.output, Nat.le_trans h.size k.size, fun i hi => (k.block i (Nat.lt_of_lt_of_le hi h.size) (by intro e; injection e with e; omega)).trans (h.block i hi)⟩
theorem quiet_cut {P : Program} {o : Oper} {a : Act} {C : World → Prop} {K : Act → Prop} (t : TypeId) (x lo hi : Operand) (ho : o.op = .slice t x (some lo) (some hi) none) (ht : P.underlying t = some (.slice (P.elem t))) (hsz : ∀ w, (sizeOf (P.elem t)).run P w = .ok 1 w)
    (A : Option Addr) (n c l h : Nat) (kl kh : IntKind) (hx : a.eval x = .slice A n c) (hlo : a.eval lo = .int kl l) (hhi : a.eval hi = .int kh h) (h1 : l ≤ h) (h2 : h ≤ c) (hk : K (a.put o.dst (.slice (cutA A c l) (h - l) (c - l)))) : o.quiet P a C K := by
  refine ⟨_, fun w _ => ?_, hk⟩
  unfold Oper.quietAt execOp
  simp only [ho, Option.map, hx, hlo, hhi, Go.run_sliceAt_slice w t _ _ _ _ ht, Go.run_slice_lh w t A n c ht kl kh (l : Int) (h : Int) (by omega) (by omega) (by omega), hsz, Sem.run_bind, Sem.run_pure, Result.andThen_ok]
  have e : sliced A (l : Int).toNat (h : Int).toNat c 1 = .slice (cutA A c l) (h - l) (c - l) := by simp [sliced, cutA]
  rw [e]
  exact ⟨rfl, rfl⟩
set_option maxHeartbeats 6400000 in
set_option maxRecDepth 10000 in
theorem rdecC (w : World) (A : Option Addr) (l : List UInt8) (n c : Nat) (hb : Bytes w A l) (hn : n = l.length) (hc : l.length ≤ c) (hl : l.length ≤ 1000000) (hx : decF l = 0) :
    Calls Tryd.prog 23 #[.slice A n c] w (RDecR l w) := by
  have HN := Lib.hid hn; clear hn
  have hnl : n = l.length := HN.out
  obtain ⟨h20, hv4, hq20, hql, hqw, hwl, hsm⟩ := decF_ok hx
  have ZA : Hid (Blk ((w.alloc (.cells #[.int .i64 0, .int .i64 0, .bool false, .bool false, .int .i64 0, .int .i64 0, .int .i64 0, .int .u32 0, .int .u32 0, .slice none 0 0, .slice none 0 0] 26)).alloc (.cells #[.int .i64 0, .int .i64 0, .bool false, .bool false, .int .i64 0, .int .i64 0, .int .i64 0, .int .u32 0, .int .u32 0, .slice none 0 0, .slice none 0 0] 26)) w.heap.size 26 zCs.toArray) := (Blk.new w _ _).alloc _
  have ZB : Hid (Blk ((w.alloc (.cells #[.int .i64 0, .int .i64 0, .bool false, .bool false, .int .i64 0, .int .i64 0, .int .i64 0, .int .u32 0, .int .u32 0, .slice none 0 0, .slice none 0 0] 26)).alloc (.cells #[.int .i64 0, .int .i64 0, .bool false, .bool false, .int .i64 0, .int .i64 0, .int .i64 0, .int .u32 0, .int .u32 0, .slice none 0 0, .slice none 0 0] 26)) (w.heap.size + 1) 26 zCs.toArray) := blk_at _ _ _ (by simp)
  have B0 : Hid (Below w.heap.size w ((w.alloc (.cells #[.int .i64 0, .int .i64 0, .bool false, .bool false, .int .i64 0, .int .i64 0, .int .i64 0, .int .u32 0, .int .u32 0, .slice none 0 0, .slice none 0 0] 26)).alloc (.cells #[.int .i64 0, .int .i64 0, .bool false, .bool false, .int .i64 0, .int .i64 0, .int .i64 0, .int .u32 0, .int .u32 0, .slice none 0 0, .slice none 0 0] 26))) := al (al (rf w) _) _
  have i1 : ¬ (n : Int) < 20 := by omega
  obtain ⟨ad, rfl, _, hcl⟩ := (hb.nx B0.out).at_ (show 0 < l.length by omega)
  have hc0 : ((w.alloc (.cells #[.int .i64 0, .int .i64 0, .bool false, .bool false, .int .i64 0, .int .i64 0, .int .i64 0, .int .u32 0, .int .u32 0, .slice none 0 0, .slice none 0 0] 26)).alloc (.cells #[.int .i64 0, .int .i64 0, .bool false, .bool false, .int .i64 0, .int .i64 0, .int .i64 0, .int .u32 0, .int .u32 0, .slice none 0 0, .slice none 0 0] 26)).cell? ad = some (.int .u8 l[0].toNat) := hcl
  have hg0 : (l.getD 0 0).toNat = l[0].toNat := by rw [List.getD_eq_getElem?_getD, List.getElem?_eq_getElem (by omega)]; rfl
  rw [hg0] at hv4
  have bb := l[0].toNat_lt
  have hqe : nF l = l[0].toNat % 16 * 4 := by unfold nF; rw [hg0]
  generalize l[0].toNat = b0 at hc0 hcl hg0 bb hv4 hqe
  obtain ⟨q, hq⟩ : ∃ q, q = nF l := ⟨_, rfl⟩
  obtain ⟨wl, hwle⟩ : ∃ wl, wl = wlF l := ⟨_, rfl⟩
  rw [← hq] at hq20 hql hqw hqe hsm
  rw [← hwle] at hqw hwl
  have q1 : (b0 : Int) % 16 * 4 = q := by omega
  have q2 : (b0 : Int).tmod 16 = (b0 : Int) % 16 := Int.tmod_eq_emod_of_nonneg (by omega)
  have q3 : (b0 : Int).tdiv 16 = (b0 : Int) / 16 := Int.tdiv_eq_ediv_of_nonneg (by omega)
  have qb : q ≤ 60 := by omega
  have HQ := Lib.hid hq
  have HWL := Lib.hid hwle
  have HX := Lib.hid hx
  have i2 : (0 : Int) < n := by omega
  have y1 : ((b0 : Int) / 16 != 4) = false := by rw [bne_eq_false_iff_eq]; omega
  have y2 : ¬ (q : Int) < 20 := by omega
  have y3 : ¬ (n : Int) < q := by omega
  have y4 : ¬ (wl : Int) < q := by omega
  have y5 : ¬ (n : Int) < wl := by omega
  have y7 : (q : Int) ≤ c := by omega
  have y8 : (0 : Int) ≤ q := by omega
  have y9 : (20 : Int) ≤ q := by omega
  have hlq : (l.take q).length = q := by rw [List.length_take]; omega
  have HSUM : Hid (∀ W, Below w.heap.size w W → Calls Tryd.prog 52 #[.slice (some ad) q c] W fun e w' => e = .returned (.int .i64 0) ∧ w' = W) := fun W k => by
    have := sumF (some ad) c (l.take q) q W (take_bytes (hb.nx k) hql) hlq.symm (by rw [hlq]; omega)
    rw [hsm] at this; exact this
  have HBO := Lib.hid hb
  have HL : Hid (n = l.length ∧ l.length ≤ 1000000 ∧ 20 ≤ q ∧ q ≤ wl ∧ wl ≤ l.length ∧ q ≤ 60 ∧ l.length ≤ c) := ⟨hnl, hl, hq20, hqw, hwl, qb, hc⟩
  obtain ⟨op, hop⟩ : ∃ op, op = (l.drop 20).take (q - 20) := ⟨_, rfl⟩
  have hopl : op.length = q - 20 := by rw [hop, List.length_take, List.length_drop]; omega
  have HOPT : Hid (∀ W, Below w.heap.size w W → Calls Tryd.prog 53 #[.slice (cutA (some ad) c 20) (q - 20) (c - 20)] W fun e w' => e = .returned (.bool (gd op 0)) ∧ w' = W) := fun W k => by
    have h1 : Bytes W (cutA (some ad) c 20) ((l.take q).drop 20) := cut_bytes (take_bytes (hb.nx k) hql) hlq.symm hq20 (by omega)
    have h2 : (l.take q).drop 20 = op := by rw [hop, List.drop_take]
    rw [h2] at h1
    exact optR W _ op (q - 20) (c - 20) h1 hopl.symm (by omega)
  have HOPE := Lib.hid hop
  have HOP : Hid ((decPk l).op = op) := by
    show (l.drop 20).take (nF l - 20) = op
    rw [← hq, hop]
  have B6 : Hid (bitsF l < 65536) := by
    have := beN_lt ((l.drop 6).take 2)
    have h2 : ((l.drop 6).take 2).length = 2 := by rw [List.length_take, List.length_drop]; omega
    rw [h2] at this
    exact this
  have wlb : wl < 65536 := by
    have := beN_lt ((l.drop 2).take 2)
    have h2 : ((l.drop 2).take 2).length = 2 := by rw [List.length_take, List.length_drop]; omega
    rw [h2] at this
    rw [hwle]; exact this
  have hq5 : ¬ c = 20 → cutA (some ad) c 20 = some (ad.add 20) := fun h => by unfold cutA; rw [if_neg h]; rfl
  clear hb hq hwle hx hcl hg0 hqe hlq hsm hl hv4 hnl h20 hq20 hql hqw hwl hop
  go_enter Tryd.func23, Tryd.ntmps23
  go_wp2_with fail
  refine (get2 _ (some ad) l n c 2 2 (HBO.out.nx B0.out) rfl HN.out (by have := HL.out; omega) (by have := HL.out; omega)).mono ?_
  rintro e1 w1 ⟨rfl, m1, hw1⟩
  have b1 : Below ((w.alloc (.cells #[.int .i64 0, .int .i64 0, .bool false, .bool false, .int .i64 0, .int .i64 0, .int .i64 0, .int .u32 0, .int .u32 0, .slice none 0 0, .slice none 0 0] 26)).alloc (.cells #[.int .i64 0, .int .i64 0, .bool false, .bool false, .int .i64 0, .int .i64 0, .int .i64 0, .int .u32 0, .int .u32 0, .slice none 0 0, .slice none 0 0] 26)).heap.size ((w.alloc (.cells #[.int .i64 0, .int .i64 0, .bool false, .bool false, .int .i64 0, .int .i64 0, .int .i64 0, .int .u32 0, .int .u32 0, .slice none 0 0, .slice none 0 0] 26)).alloc (.cells #[.int .i64 0, .int .i64 0, .bool false, .bool false, .int .i64 0, .int .i64 0, .int .i64 0, .int .u32 0, .int .u32 0, .slice none 0 0, .slice none 0 0] 26)) w1 := by rw [hw1]; exact dn (rf _) _
  have ZA1 := Lib.hid (ZA.out.nx b1)
  have ZB1 := Lib.hid (ZB.out.nx b1)
  have B1 := Lib.hid (nx B0.out b1)
  clear b1 hw1 hc0 ZA ZB B0
  rw [show beN ((l.drop 2).take 2) = wl from HWL.out.symm]
  go_wp2_with fail
  refine (HSUM.out _ B1.out).mono ?_
  rintro e2 w2 ⟨rfl, rfl⟩
  go_wp2_with fail
  refine (get2 _ (some ad) l n c 6 6 (HBO.out.nx B1.out) rfl HN.out (by have := HL.out; omega) (by have := HL.out; omega)).mono ?_
  rintro e3 w3 ⟨rfl, m3, hw3⟩
  have b3 : Below w2.heap.size w2 w3 := by rw [hw3]; exact dn (rf _) _
  have ZA3 := Lib.hid (ZA1.out.nx b3)
  have ZB3 := Lib.hid (ZB1.out.nx b3)
  have B3 := Lib.hid (nx B1.out b3)
  clear b3 hw3 ZA1 ZB1 B1
  rw [show beN ((l.drop 6).take 2) = bitsF l from rfl]
  have hB := B6.out
  have HDG := Lib.hid (decG_ref l HX.out)
  obtain ⟨B, hBe⟩ : ∃ B, B = bitsF l := ⟨_, rfl⟩
  have HDD : Hid (decG l = if 32768 ≤ bitsF l ∨ gd (decPk l).op 0 = false then 3 else if inP (decPk l) = false then 5 else 0) := rfl
  rw [← hBe] at HDG HDD hB ⊢
  have HBE := Lib.hid hBe
  clear hBe
  have q15 : (bits .and .i64 (B : Int) 32768 != 0) = decide (B / 32768 % 2 = 1) := and_bit B 15 hB (by omega)
  by_cases h15 : 32768 ≤ B
  · have HR : Hid (decG l = 3) := by show _ = _; rw [HDD.out, if_pos (.inl h15)]
    have y15 : (bits .and .i64 (B : Int) 32768 != 0) = true := by rw [q15]; simp; omega
    clear q15
    go_wp2_with (first
      | ((with_reducible refine wpList_load_blk rfl 26 4 rfl (w.heap.size + 1) 0 11 (by kernel_rfl) 26 _ zCs ZB3.out (by kernel_rfl) _ Tryd.underlying26 (by kernel_rfl) (by kernel_rfl) ?_))
      | (refine wpList_store_row rfl 26 (.tmp 2) (.tmp 63) rfl _ zCs.toArray rfl rfl _ _ ZA3.out (by kernel_rfl) rfl (by kernel_rfl) ?_))
    refine bodyPost_ret (v := .tuple #[.agg zCs.toArray, .int .i64 3]) ((run_results_cell_tmp rfl _ _ _ _ _ _ _ rfl (setRow_heap _ _ _ _ _ _ ZA3.out) Tryd.underlying26 rfl (by kernel_rfl)).trans rfl) rfl ?_
    exact .inr ⟨by rw [HR.out]; decide, by rw [HR.out], below_setRow B3.out (Nat.le_refl _) _⟩
  · have y15 : (bits .and .i64 (B : Int) 32768 != 0) = false := by rw [q15]; simp; omega
    clear q15
    obtain ⟨m13, hm13⟩ : ∃ m, m = B % 8192 := ⟨_, rfl⟩
    have tm : (B : Int).tmod 8192 = (m13 : Nat) := by rw [hm13, Int.tmod_eq_emod_of_nonneg (by omega)]; rfl
    have m13b : m13 < 8192 := by omega
    have HM13 := Lib.hid hm13
    clear hm13
    · have hc58 : (20 : Nat) ≤ q := HL.out.2.2.1
      have hqc : q ≤ c := by have := HL.out; omega
      go_wp2_with ((with_reducible refine wpList_cutG (by kernel_rfl) 24 (.tmp 57) (.const (.int .i64 20)) (.tmp 58) rfl rfl (fun w => by kernel_rfl) (some ad) n c 20 q .i64 .i64 rfl rfl rfl hc58 hqc ?_))
      refine (HOPT.out _ B3.out).mono ?_
      rintro e4 w4 ⟨rfl, rfl⟩
      have hnot : ∀ (x : Bool) (w : World), (Op.unary .not (.bool x)).run Tryd.prog w = .ok (.bool (!x)) w := fun _ _ => rfl
      cases hgd : gd op 0
      · have HR : Hid (decG l = 3) := by show _ = _; rw [HDD.out, if_pos (.inr (by rw [HOP.out]; exact hgd))]

        go_wp2_with (first
          | ((with_reducible refine wpList_load_blk rfl 26 4 rfl (w.heap.size + 1) 0 11 (by kernel_rfl) 26 _ zCs ZB3.out (by kernel_rfl) _ Tryd.underlying26 (by kernel_rfl) (by kernel_rfl) ?_))
          | (refine wpList_store_row rfl 26 (.tmp 2) (.tmp 63) rfl _ zCs.toArray rfl rfl _ _ ZA3.out (by kernel_rfl) rfl (by kernel_rfl) ?_))
        refine bodyPost_ret (v := .tuple #[.agg zCs.toArray, .int .i64 3]) ((run_results_cell_tmp rfl _ _ _ _ _ _ _ rfl (setRow_heap _ _ _ _ _ _ ZA3.out) Tryd.underlying26 rfl (by kernel_rfl)).trans rfl) rfl ?_
        exact .inr ⟨by rw [HR.out]; decide, by rw [HR.out], below_setRow B3.out (Nat.le_refl _) _⟩
      · have HDH : Hid (decG l = if (65535 - q : Int) < (m13 * 8 : Nat) + wl - q then 5 else 0) := by
          show _ = _
          have := HDG.out h15 (by rw [HOP.out]; exact hgd)
          rw [← HQ.out, ← HWL.out, ← HM13.out] at this; exact this
        by_cases h5 : (65535 - q : Int) < (m13 * 8 : Nat) + wl - q
        · have HR : Hid (decG l = 5) := by show _ = _; rw [HDH.out, if_pos h5]
          have y6 : (65535 - q : Int) < (m13 : Int) * 8 + wl - q := by omega

          go_wp2_with (first
            | ((with_reducible refine wpList_load_blk rfl 26 4 rfl (w.heap.size + 1) 0 11 (by kernel_rfl) 26 _ zCs ZB3.out (by kernel_rfl) _ Tryd.underlying26 (by kernel_rfl) (by kernel_rfl) ?_))
            | (refine wpList_store_row rfl 26 (.tmp 2) (.tmp 75) rfl _ zCs.toArray rfl rfl _ _ ZA3.out (by kernel_rfl) rfl (by kernel_rfl) ?_))
          refine bodyPost_ret (v := .tuple #[.agg zCs.toArray, .int .i64 5]) ((run_results_cell_tmp rfl _ _ _ _ _ _ _ rfl (setRow_heap _ _ _ _ _ _ ZA3.out) Tryd.underlying26 rfl (by kernel_rfl)).trans rfl) rfl ?_
          exact .inr ⟨by rw [HR.out]; decide, by rw [HR.out], below_setRow B3.out (Nat.le_refl _) _⟩
        · have HR : Hid (decG l = 0) := by show _ = _; rw [HDH.out, if_neg h5]
          have y6 : ¬ (65535 - q : Int) < (m13 : Int) * 8 + wl - q := by omega
          · have YB := HBO.out.nx B3.out
            have hL := HL.out
            obtain ⟨ad1, e1, _, c1⟩ := YB.at_ (show 1 < l.length by omega)
            injection e1 with e1
            subst e1
            obtain ⟨ad8, e8, _, c8⟩ := YB.at_ (show 8 < l.length by omega)
            injection e8 with e8
            subst e8
            obtain ⟨ad9, e9, _, c9⟩ := YB.at_ (show 9 < l.length by omega)
            injection e9 with e9
            subst e9
            obtain ⟨s1, hs1⟩ : ∃ s, s = l[1].toNat := ⟨_, rfl⟩
            obtain ⟨s8, hs8⟩ : ∃ s, s = l[8].toNat := ⟨_, rfl⟩
            obtain ⟨s9, hs9⟩ : ∃ s, s = l[9].toNat := ⟨_, rfl⟩
            have s1b : s1 < 256 := by rw [hs1]; exact l[1].toNat_lt
            have s8b : s8 < 256 := by rw [hs8]; exact l[8].toNat_lt
            have s9b : s9 < 256 := by rw [hs9]; exact l[9].toNat_lt
            rw [← hs1] at c1
            rw [← hs8] at c8
            rw [← hs9] at c9
            have HS1 : Hid (s1 = (l.getD 1 0).toNat) := by
              show _ = _
              rw [hs1, List.getD_eq_getElem?_getD, List.getElem?_eq_getElem (by omega)]; rfl
            have HS8 : Hid (s8 = (l.getD 8 0).toNat) := by
              show _ = _
              rw [hs8, List.getD_eq_getElem?_getD, List.getElem?_eq_getElem (by omega)]; rfl
            have HS9 : Hid (s9 = (l.getD 9 0).toNat) := by
              show _ = _
              rw [hs9, List.getD_eq_getElem?_getD, List.getElem?_eq_getElem (by omega)]; rfl
            have hadb : ad.block < w.heap.size := by
              obtain ⟨_, e0, hh, _⟩ := HBO.out.at_ (show 0 < l.length by omega)
              injection e0 with e0
              subst e0; exact hh
            obtain ⟨wh, hwh⟩ : ∃ wh, wh = decide (B / 16384 % 2 = 1) := ⟨_, rfl⟩
            obtain ⟨mo, hmo⟩ : ∃ mo, mo = decide (B / 8192 % 2 = 1) := ⟨_, rfl⟩
            have q14 : (bits .and .i64 (B : Int) 16384 != 0) = wh := by rw [hwh]; exact and_bit B 14 hB (by omega)
            have q13 : (bits .and .i64 (B : Int) 8192 != 0) = mo := by rw [hmo]; exact and_bit B 13 hB (by omega)
            have HWH := Lib.hid hwh
            have HMO := Lib.hid hmo
            have j1 : (1 : Int) < n := by omega
            have j8 : (8 : Int) < n := by omega
            have j9 : (9 : Int) < n := by omega
            have y10 : (wl : Int) ≤ c := by omega
            have YS : Hid (∀ W', Below w4.heap.size w4 W' → Bytes W' (some ad) l) := fun W' k => YB.nx k
            have KS : Hid (∀ W', w4.grownBy W' (some w.heap.size) → (W'.cell? ⟨ad.block, ad.off + 1, none⟩ = some (.int .u8 s1) ∧ W'.cell? ⟨ad.block, ad.off + 8, none⟩ = some (.int .u8 s8) ∧ W'.cell? ⟨ad.block, ad.off + 9, none⟩ = some (.int .u8 s9))) := fun W' k => by
              have hblk := k.block ad.block (by have := ZA3.out.lt; omega) (by intro e; injection e with e; omega)
              have hcell : ∀ j, W'.cell? (ad.add j) = w4.cell? (ad.add j) := fun j => World.cell?_of_block (by rw [block_of_add]; exact hblk)
              exact ⟨(hcell 1).trans c1, (hcell 8).trans c8, (hcell 9).trans c9⟩
            have S0 := KS.out w4 (World.grownBy.refl _ _)
            have YG : Hid (∀ y : Gw w4 w.heap.size, Bytes y.w (some ad) l) := fun y => (HBO.out.keep (fun p hp => (World.cell?_of_block (y.h.block p.block (by have := ZA3.out.lt; omega) (by intro e; injection e with e; omega))).trans (B3.out.cell hp))).more (by have := y.h.size; have := B3.out.size; omega)
            clear hwh hmo hs1 hs8 hs9 hL
            go_wp2_with fail
            obtain ⟨da, hda⟩ : ∃ da, da = (l.drop q).take (wl - q) := ⟨_, rfl⟩
            have HDA := Lib.hid hda
            clear hda
            have gs1 : IntKind.i64.wrap (s1 : Int) = s1 := IntWalk.i64_in _ (by omega)
            have gs8 : IntKind.i64.wrap (s8 : Int) = s8 := IntWalk.i64_in _ (by omega)
            have gs9 : IntKind.i64.wrap (s9 : Int) = s9 := IntWalk.i64_in _ (by omega)
            have QZ : Hid (Blk w4 w.heap.size 26 zCs.toArray) := ZA3.out
            have L1 : ∀ x : Gw w4 w.heap.size, x.w.cell? ⟨ad.block, ad.off + 1, none⟩ = some (.int .u8 s1) := fun x => (KS.out _ x.h).1
            have L8 : ∀ x : Gw w4 w.heap.size, x.w.cell? ⟨ad.block, ad.off + 8, none⟩ = some (.int .u8 s8) := fun x => (KS.out _ x.h).2.1
            have L9 : ∀ x : Gw w4 w.heap.size, x.w.cell? ⟨ad.block, ad.off + 9, none⟩ = some (.int .u8 s9) := fun x => (KS.out _ x.h).2.2
            have YOP : Hid (∀ y : Gw w4 w.heap.size, Reads y.w y.w.heap.size 1 (cutA (some ad) c 20) (q - 20) (Lib.byteCells op)) := fun y => by
              have hL := HL.out
              have h1 : Bytes y.w (cutA (some ad) c 20) ((l.take q).drop 20) := cut_bytes (take_bytes (YG.out y) (by omega)) (n := q) (by rw [List.length_take]; omega) (by omega) (by omega)
              unfold Bytes at h1
              rw [show ((l.take q).drop 20).length = q - 20 by rw [List.length_drop, List.length_take]; omega, List.drop_take, ← HOPE.out] at h1
              exact h1
            have YDA : Hid (∀ y : Gw w4 w.heap.size, Reads y.w y.w.heap.size 1 (cutA (some ad) c q) (wl - q) (Lib.byteCells da)) := fun y => by
              have hL := HL.out
              have h1 : Bytes y.w (cutA (some ad) c q) ((l.take wl).drop q) := cut_bytes (take_bytes (YG.out y) (by omega)) (n := wl) (by rw [List.length_take]; omega) (by omega) (by omega)
              unfold Bytes at h1
              rw [show ((l.take wl).drop q).length = wl - q by rw [List.length_drop, List.length_take]; omega, List.drop_take, ← HDA.out] at h1
              exact h1
            refine wp_region_gw w.heap.size 26 zCs.toArray 37 (by kernel_rfl) (by kernel_rfl) (by kernel_rfl) QZ.out ?_
            iterate 5 (refine wpNew_want (by kernel_rfl) (by kernel_rfl) ?_; intro K hK; go_big_quiet_op; go_big_quiet_on)
            refine wpNew_call (f := 51) (args := #[.slice (some ad) n c, .int .i64 4]) (.int .i64 (beN ((l.drop 4).take 2))) (by kernel_rfl) (fun w => by kernel_rfl) ?_ ?_
            · rintro _ ⟨y, rfl⟩
              refine (get2 _ (some ad) l n c 4 4 (YG.out y) rfl HN.out (by have := HL.out; omega) (by have := HL.out; omega)).mono ?_
              rintro e5 w5 ⟨rfl, m5, rfl⟩
              exact ⟨rfl, ⟨⟨_, only_trans y.h (only_of (dn (rf y.w) m5))⟩, rfl⟩, dn (rf y.w) m5⟩
            go_frame
            iterate 16 (refine wpNew_want (by kernel_rfl) (by kernel_rfl) ?_; intro K hK; go_big_quiet_op; go_big_quiet_on)
            refine wpNew_call (f := 54) (args := #[.slice (some ad) n c, .int .i64 12]) (.int .u32 (beN ((l.drop 12).take 4))) (by kernel_rfl) (fun w => by kernel_rfl) ?_ ?_
            · rintro _ ⟨y, rfl⟩
              refine (get4 _ (some ad) l n c 12 12 (YG.out y) rfl HN.out (by have := HL.out; omega) (by have := HL.out; omega)).mono ?_
              rintro e5 w5 ⟨rfl, m5, rfl⟩
              exact ⟨rfl, ⟨⟨_, only_trans y.h (only_of (dn (rf y.w) m5))⟩, rfl⟩, dn (rf y.w) m5⟩
            go_frame
            iterate 1 (refine wpNew_want (by kernel_rfl) (by kernel_rfl) ?_; intro K hK; go_big_quiet_op; go_big_quiet_on)
            refine wpNew_call (f := 54) (args := #[.slice (some ad) n c, .int .i64 16]) (.int .u32 (beN ((l.drop 16).take 4))) (by kernel_rfl) (fun w => by kernel_rfl) ?_ ?_
            · rintro _ ⟨y, rfl⟩
              refine (get4 _ (some ad) l n c 16 16 (YG.out y) rfl HN.out (by have := HL.out; omega) (by have := HL.out; omega)).mono ?_
              rintro e5 w5 ⟨rfl, m5, rfl⟩
              exact ⟨rfl, ⟨⟨_, only_trans y.h (only_of (dn (rf y.w) m5))⟩, rfl⟩, dn (rf y.w) m5⟩
            go_frame
            refine news_lit0 (by kernel_rfl) _ rfl (fun w => ⟨_, rfl⟩) (by decide) (fun g1 => ?_)
            go_frame
            iterate 2 (refine wpNew_want (by kernel_rfl) (by kernel_rfl) ?_; intro K hK; go_big_quiet_op; go_big_quiet_on)
            refine wpNew_want (by kernel_rfl) (by kernel_rfl) ?_
            intro K hK
            refine quiet_cut 24 (.tmp 102) (.const (.int .i64 20)) (.tmp 103) rfl rfl (fun w => by kernel_rfl) (some ad) n c 20 q .i64 .i64 rfl rfl rfl (by have := HL.out; omega) (by have := HL.out; omega) ?_
            refine hK _ ?_
            clear hK K
            go_frame
            refine news_app0 stB (by kernel_rfl) (.tmp 101) (.tmp 104) rfl (by decide) (by have := ZA3.out.lt; omega) g1 rfl (cutA (some ad) c 20) (q - 20) (c - 20) (Lib.byteCells op) rfl (fun y => ?_) (by have := HL.out; omega) (by have := HL.out; omega) (fun AO kO => ?_)
            · exact YOP.out y
            go_frame
            refine news_lit0 (by kernel_rfl) _ rfl (fun w => ⟨_, rfl⟩) (by decide) (fun g2 => ?_)
            go_frame
            iterate 3 (refine wpNew_want (by kernel_rfl) (by kernel_rfl) ?_; intro K hK; go_big_quiet_op; go_big_quiet_on)
            refine wpNew_want (by kernel_rfl) (by kernel_rfl) ?_
            intro K hK
            refine quiet_cut 24 (.tmp 107) (.tmp 108) (.tmp 109) rfl rfl (fun w => by kernel_rfl) (some ad) n c q wl .i64 .i64 rfl rfl rfl (by have := HL.out; omega) (by have := HL.out; omega) ?_
            refine hK _ ?_
            clear hK K
            go_frame
            refine news_app0 stB (by kernel_rfl) (.tmp 106) (.tmp 110) rfl (by decide) (by have := ZA3.out.lt; omega) g2 rfl (cutA (some ad) c q) (wl - q) (c - q) (Lib.byteCells da) rfl (fun y => ?_) (by have := HL.out; omega) (by have := HL.out; omega) (fun AD kD => ?_)
            · exact YDA.out y
            go_frame
            iterate 1 (refine wpNew_want (by kernel_rfl) (by kernel_rfl) ?_; intro K hK; go_big_quiet_op; go_big_quiet_on)
            refine news_store (by kernel_rfl) 26 2 112 rfl rfl 0 _ zCs rfl rfl rfl (by simp [zCs]) (by kernel_rfl) (by simp [Value.oneCell']) ?_
            go_frame
            iterate 1 (refine wpNew_want (by kernel_rfl) (by kernel_rfl) ?_; intro K hK; go_big_quiet_op; go_big_quiet_on)
            refine wpNew_nil ?_
            rintro _ ⟨y, rfl⟩ hF
            obtain ⟨⟨⟨_, rO, gO, cO⟩, rD, gD, cD⟩, hB⟩ := hF
            have hL := HL.out
            have hdl : da.length = wl - q := by rw [HDA.out, List.length_take, List.length_drop]; omega
            have e0 : (decPk l).op = op := HOP.out
            have e1 : (decPk l).da = da := by
              show (l.drop (nF l)).take (wlF l - nF l) = da
              rw [← HQ.out, ← HWL.out]; exact HDA.out.symm
            have z1 : beN ((l.drop 1).take 1) = s1 := by rw [HS1.out]; exact beN_one l 1 (by omega)
            have z8 : beN ((l.drop 8).take 1) = s8 := by rw [HS8.out]; exact beN_one l 8 (by omega)
            have z9 : beN ((l.drop 9).take 1) = s9 := by rw [HS9.out]; exact beN_one l 9 (by omega)
            have zo : ((bitsF l % 8192 * 8 : Nat) : Int) = (m13 : Int) * 8 := by rw [← HBE.out, ← HM13.out]; omega
            have zw : decide (bitsF l / 16384 % 2 = 1) = wh := by rw [← HBE.out]; exact HWH.out.symm
            have zm : decide (bitsF l / 8192 % 2 = 1) = mo := by rw [← HBE.out]; exact HMO.out.symm
            have hcs : (decPk l).cs (.slice AO (q - 20) kO) (.slice AD (wl - q) kD) = [.int .i64 (s1 : Nat), .int .i64 (beN ((l.drop 4).take 2) : Nat), .bool wh, .bool mo, .int .i64 ((m13 : Int) * 8), .int .i64 (s8 : Nat), .int .i64 (s9 : Nat), .int .u32 (beN ((l.drop 12).take 4) : Nat), .int .u32 (beN ((l.drop 16).take 4) : Nat), .slice AO (q - 20) kO, .slice AD (wl - q) kD] := by
              unfold Pk.cs decPk two
              dsimp only
              rw [z1, z8, z9, zo, zw, zm]
            have hB2 : Blk y.w w.heap.size 26 ((decPk l).cs (.slice AO (q - 20) kO) (.slice AD (wl - q) kD)).toArray := by
              rw [hcs]; exact hB
            have bY : Below w.heap.size w y.w := below_gw B3.out y.h
            have hfr : (decPk l).fr < 4294967296 := by
              show beN ((l.drop 12).take 4) < _
              have := beN_lt ((l.drop 12).take 4)
              have h2 : ((l.drop 12).take 4).length = 4 := by rw [List.length_take, List.length_drop]; omega
              rw [h2] at this
              exact this
            have hto : (decPk l).to_ < 4294967296 := by
              show beN ((l.drop 16).take 4) < _
              have := beN_lt ((l.drop 16).take 4)
              have h2 : ((l.drop 16).take 4).length = 4 := by rw [List.length_take, List.length_drop]; omega
              rw [h2] at this
              exact this
            have hoff : i64 (decPk l).off := by
              show i64 ((bitsF l % 8192 * 8 : Nat) : Int)
              rw [zo]; unfold i64; omega
            have hdl70 : wl - q ≤ 70000 := Nat.le_trans (Nat.sub_le wl q) (Nat.le_of_lt (Nat.lt_trans wlb (by decide)))
            have hol : q - 20 ≤ 4000 := Nat.le_trans (Nat.sub_le q 20) (Nat.le_trans qb (by decide))
            have hP : IsPk y.w (decPk l) (.slice AO (q - 20) kO) (.slice AD (wl - q) kD) := ⟨⟨AO, kO, by rw [e0, hopl], by rw [e0]; unfold Bytes; rw [hopl]; exact rO, by rw [e0, hopl]; exact cO⟩, ⟨AD, kD, by rw [e1, hdl], by rw [e1]; unfold Bytes; rw [hdl]; exact rD, by rw [e1, hdl]; exact cD⟩, hoff, hfr, hto, by rw [e0, hopl]; exact hol, by rw [e1, hdl]; exact hdl70⟩
            clear hB
            go_wp2
            refine bodyPost_ret (v := .tuple #[.agg ((decPk l).cs (.slice AO (q - 20) kO) (.slice AD (wl - q) kD)).toArray, .int .i64 0]) ((run_results_cell_tmp rfl _ _ _ _ _ _ _ rfl hB2 Tryd.underlying26 rfl (by kernel_rfl)).trans rfl) rfl ?_
            exact .inl ⟨HR.out, ⟨_, _, rfl, hP, bY⟩⟩
end Go.Proofs.YthjpdaflgphbbaaDoor
