/-
  Of every script what is sent, what it has, and in which state it is. No conditions.
-/
import Derived.Test.YtgdlghieifadhaaLrP
import Derived.Test.YtgdlghieifadhaaLr7
import Derived.Test.YtgdlghieifadhaaLr8
set_option linter.unusedVariables false
namespace Go.Proofs.Ytgdlghieifadhaa
open Go.ChangeShapes Go.WideShapes Go.ChangeAt Go.RowKit

theorem splice_full (cur vs : List Value) (h : cur.length = vs.length) : splice cur 0 vs = vs := by
  unfold splice; rw [Nat.zero_add, ← h]; simp
theorem rel_lease {s r : St} (h : Rel s r) : leaseV r = leaseV s ∧ r.st = s.st ∧ r.id = s.id := by
  obtain ⟨o, rfl, _⟩ := h
  exact ⟨rfl, rfl, rfl⟩
def Clk (i : Nat) (now : Int) : Prop := 0 ≤ now ∧ now ≤ i * 1073741824
theorem Clk.go {i : Nat} {now : Int} (h : Clk i now) (z : Int) (h0 : 0 ≤ z) (h1 : z ≤ 1073741824) : Clk (i + 1) (now + z) := by
  unfold Clk at *; omega
theorem Clk.hi {i : Nat} {now : Int} (h : Clk i now) (hi : i ≤ 200) : 0 ≤ now ∧ now ≤ 1152921504606846976 := by
  unfold Clk at h; omega
theorem newS_okP : newS.ok := ⟨by decide, by decide, by decide, by decide, by decide, by decide, by decide, by decide⟩
theorem Out.only {w w' : World} {B b : Nat} {v : Value} {o : Option Ls} (h : Out w B v o) (hg : w.grownBy w' (some b)) (hb : b < B) : Out w' B v o := by
  rcases o with _ | x
  · exact h
  · obtain ⟨g, e, h1, h2⟩ := h
    exact ⟨g, e, h1, h2.only hg (by omega)⟩
-- what is known of the world between two steps
structure Now (w : World) (B0 bc br : Nat) (mac : M6) (A : Option Addr) (n : Nat) (l : List Stp) (s r : St) (W : World) : Prop where
  c : IsC W bc mac s
  f : IsRf W br mac r
  m : Blk W B0 25 mac.v.cells
  b : Below w.heap.size w W
  ok : s.ok
  rel : Rel s r
  rows : RowsAt W w.heap.size 20 A n (l.map Stp.cs)
  hc : w.heap.size ≤ bc
  hr : w.heap.size ≤ br
theorem Now.below {w : World} {B0 bc br : Nat} {mac : M6} {A : Option Addr} {n : Nat} {l : List Stp} {s r : St} {W W' : World} (h : Now w B0 bc br mac A n l s r W) (hb : Below W.heap.size W W') : Now w B0 bc br mac A n l s r W' :=
  ⟨h.c.nx hb, h.f.nx hb, h.m.nx hb, nx h.b hb, h.ok, h.rel, h.rows.below (hb.mono h.b.size), h.hc, h.hr⟩
theorem Now.drewN {w : World} {B0 bc br : Nat} {mac : M6} {A : Option Addr} {n : Nat} {l : List Stp} {s r : St} {W : World} (h : Now w B0 bc br mac A n l s r W) (k : Nat) : Now w B0 bc br mac A n l s r (W.drewN k) := h.below (dn (rf _) _)
theorem Now.below2 {w : World} {B0 bc br : Nat} {mac : M6} {A : Option Addr} {n : Nat} {l : List Stp} {s r : St} {W0 W' : World} {o : Obj} (h : Now w B0 bc br mac A n l s r (W0.alloc o)) (g : (W0.alloc o).grownBy W' (some W0.heap.size)) (hz : w.heap.size ≤ W0.heap.size)
    (hl : bc < W0.heap.size ∧ br < W0.heap.size ∧ B0 < W0.heap.size) : Now w B0 bc br mac A n l s r W' :=
  have hb : Below W0.heap.size (W0.alloc o) W' := below_only g (Nat.le_refl _) (by simp)
  ⟨h.c.below hb hl.1, h.f.below hb hl.2.1, h.m.below hb hl.2.2, h.b.trans (hb.mono hz), h.ok, h.rel, h.rows.below (hb.mono hz), h.hc, h.hr⟩
theorem Now.ne {w : World} {B0 bc br : Nat} {mac : M6} {A : Option Addr} {n : Nat} {l : List Stp} {s r : St} {W : World} (h : Now w B0 bc br mac A n l s r W) : bc ≠ br ∧ B0 ≠ bc ∧ B0 ≠ br :=
  ⟨Blk.ne_ h.c h.f (by decide), Blk.ne_ h.m h.c (by decide), Blk.ne_ h.m h.f (by decide)⟩
theorem Now.drew {w : World} {B0 bc br : Nat} {mac : M6} {A : Option Addr} {n : Nat} {l : List Stp} {s r : St} {W : World} (h : Now w B0 bc br mac A n l s r W) : Now w B0 bc br mac A n l s r W.drew := h.below (rf _).drew
-- both have gone on by a step
theorem Now.step {w : World} {B0 bc br : Nat} {mac : M6} {A : Option Addr} {n : Nat} {l : List Stp} {s r s' r' : St} {W W1 W2 : World} (h : Now w B0 bc br mac A n l s r W)
    (g1 : W.grownBy W1 (some bc)) (h1 : IsC W1 bc mac s') (g2 : W1.grownBy W2 (some br)) (h2 : IsRf W2 br mac r') (ok : s'.ok) (rel : Rel s' r') : Now w B0 bc br mac A n l s' r' W2 := by
  obtain ⟨n1, n2, n3⟩ := h.ne
  have b1 : Below w.heap.size W W1 := below_only g1 h.hc h.b.size
  have b2 : Below w.heap.size W1 W2 := below_only g2 h.hr (Nat.le_trans h.b.size g1.size)
  exact ⟨Blk.only h1 g2 n1, h2, (h.m.only g1 n2).only g2 n3, (h.b.trans b1).trans b2, ok, rel, (h.rows.below b1).below b2, h.hc, h.hr⟩
theorem Rel.cell6 {W : World} {br : Nat} {mac : M6} {s r : St} (h : IsRf W br mac r) (hr : Rel s r) : W.cell? ⟨br, 6, none⟩ = some (.int .i64 s.st) := by
  obtain ⟨o, rfl, _⟩ := hr
  exact h.cell 6
theorem Rel.cell7 {W : World} {br : Nat} {mac : M6} {s r : St} (h : IsRf W br mac r) (hr : Rel s r) : W.cell? ⟨br, 7, none⟩ = some (.int .u32 s.id) := by
  obtain ⟨o, rfl, _⟩ := hr
  exact h.cell 7
theorem keep_x {w w' : World} {xb : Nat} {k b : Nat} {v : Value} (hg : w.grownBy w' (some b)) (hne : xb ≠ b) (h : w.cell? ⟨xb, k, none⟩ = some v) : w'.cell? ⟨xb, k, none⟩ = some v :=
  (hg.cell_far ⟨xb, k, none⟩ (block_lt_of_cell h) (by intro e; injection e with e; exact hne e)).trans h

def Lm6 (mac : M6) : List Value := [.int .u8 mac.a, .int .u8 mac.b, .int .u8 mac.c, .int .u8 mac.d, .int .u8 mac.e, .int .u8 mac.f]
theorem lm6one (mac : M6) : ∀ v ∈ Lm6 mac, v.oneCell' = true := by
  intro v hv
  simp only [Lm6, List.mem_cons, List.not_mem_nil, or_false] at hv
  rcases hv with rfl | rfl | rfl | rfl | rfl | rfl <;> rfl
theorem Now.only {w : World} {B0 bc br b : Nat} {mac : M6} {A : Option Addr} {n : Nat} {l : List Stp} {s r : St} {W W' : World} (h : Now w B0 bc br mac A n l s r W) (g : W.grownBy W' (some b)) (h1 : b ≠ bc) (h2 : b ≠ br) (h3 : b ≠ B0) (hz : w.heap.size ≤ b) : Now w B0 bc br mac A n l s r W' :=
  have hb : Below w.heap.size W W' := below_only g hz h.b.size
  ⟨h.c.only g h1.symm, h.f.only g h2.symm, h.m.only g h3.symm, h.b.trans hb, h.ok, h.rel, h.rows.below hb, h.hc, h.hr⟩
theorem keep_r {w w' : World} {g o b : Nat} {cs : List Value} (hg : w.grownBy w' (some b)) (hne : g ≠ b) (h : w.rangeAt g o cs) : w'.rangeAt g o cs := fun j v hv => keep_x hg hne (h j v hv)

set_option maxRecDepth 100000 in
set_option maxHeartbeats 6400000 in
theorem leasePlays_walk (mac : M6) (A : Option Addr) (n c : Nat) (l : List Stp) (w : World) (hm : n ≤ maxLen) (hA : RowsAt w w.heap.size 20 A n (l.map Stp.cs)) :
    Calls Try.prog 7 #[mac.v, .slice A n c] w fun e w' => e = .returned (.bool true) ∧ Below w.heap.size w w' := by
  unfold maxLen at hm
  have HA := Lib.hid hA; clear hA
  have M0 : Hid (Blk (w.alloc (.cells #[.int .u8 mac.a, .int .u8 mac.b, .int .u8 mac.c, .int .u8 mac.d, .int .u8 mac.e, .int .u8 mac.f] 25)) w.heap.size 25 mac.v.cells) := Blk.new _ _ _
  have B0 : Hid (Below w.heap.size w (w.alloc (.cells #[.int .u8 mac.a, .int .u8 mac.b, .int .u8 mac.c, .int .u8 mac.d, .int .u8 mac.e, .int .u8 mac.f] 25))) := al (rf w) _
  unfold M6.v
  go_enter Try.func7, Try.ntmps7
  go_wp2_with fail
  refine (newC mac _).mono ?_
  rintro e w1 ⟨bc, rfl, hbc, hC, hb1⟩
  have M1 := M0.out.nx hb1
  have bw1 := nx B0.out hb1
  have z1 : w.heap.size ≤ bc := by have := hbc; simp at this; omega
  obtain ⟨x0, x1, x2, x3, x4, x5⟩ := cells6 M1
  have hN : Now w w.heap.size bc w1.heap.size mac A n l newS newS (w1.alloc (.cells #[.int .u8 mac.a, .int .u8 mac.b, .int .u8 mac.c, .int .u8 mac.d, .int .u8 mac.e, .int .u8 mac.f, .int .i64 0, .int .u32 0, .int .i64 0, .int .i64 0, .int .i64 0, .int .u32 0, .int .u32 0, .int .u8 0, .int .u8 0, .int .u8 0, .int .u8 0, .int .u8 0, .int .u8 0, .int .i64 0, .int .u32 0, .int .u32 0, .int .i64 0, .int .u32 0, .int .u32 0, .int .u32 0, .int .i64 0, .int .u32 0, .int .u32 0, .int .u8 0, .int .u8 0, .int .u8 0, .int .u8 0, .int .u8 0, .int .u8 0, .int .i64 0, .int .u32 0, .int .u32 0, .int .i64 0, .int .u32 0, .int .u32 0, .int .u32 0, .int .i64 0] 46)) :=
    ⟨hC.alloc _, Blk.new _ _ _, M1.alloc _, al bw1 _, newS_okP, Rel.self _, (HA.out.below bw1).below (al (rf _) _ |>.mono bw1.size), z1, bw1.size⟩
  have HN := Lib.hid hN
  clear hN M1 bw1 hC hb1 M0 B0 HA z1 hbc
  go_wp2
  clear x0 x1 x2 x3 x4 x5
  generalize w1.alloc (.cells #[.int .u8 mac.a, .int .u8 mac.b, .int .u8 mac.c, .int .u8 mac.d, .int .u8 mac.e, .int .u8 mac.f, .int .i64 0, .int .u32 0, .int .i64 0, .int .i64 0, .int .i64 0, .int .u32 0, .int .u32 0, .int .u8 0, .int .u8 0, .int .u8 0, .int .u8 0, .int .u8 0, .int .u8 0, .int .i64 0, .int .u32 0, .int .u32 0, .int .i64 0, .int .u32 0, .int .u32 0, .int .u32 0, .int .i64 0, .int .u32 0, .int .u32 0, .int .u8 0, .int .u8 0, .int .u8 0, .int .u8 0, .int .u8 0, .int .u8 0, .int .i64 0, .int .u32 0, .int .u32 0, .int .i64 0, .int .u32 0, .int .u32 0, .int .u32 0, .int .i64 0] 46) = W1 at HN ⊢
  generalize w1.heap.size = br at HN ⊢
  go_loopw [7, 8] (fun tv iv wr => ∃ (now : Int) (i : Nat) (s r : St), tv = .int .i64 now ∧ iv = .int .i64 i ∧ i ≤ 200 ∧ Clk i now ∧ Now w w.heap.size bc br mac A n l s r wr) (fun _ iv _ => n - (intOf iv).toNat)
  case atStart => exact ⟨0, 0, newS, newS, rfl, rfl, by decide, by unfold Clk; decide, HN.out⟩
  case round =>
    obtain ⟨now, i, s, r, rfl, rfl, hi, hk, hN⟩ := hrel
    clear HN
    by_cases hlt : i < n
    rotate_left
    · have HN := Lib.hid hN; clear hN hk
      go_wp2_with fail
      refine (known _).mono ?_
      rintro e w9 ⟨rfl, hb9⟩
      go_wp2
      go_ret
      exact ⟨rfl, nx HN.out.b hb9⟩
    by_cases h200 : i < 200
    rotate_left
    · have HN := Lib.hid hN; clear hN hk
      go_wp2_with fail
      refine (known _).mono ?_
      rintro e w9 ⟨rfl, hb9⟩
      go_wp2
      go_ret
      exact ⟨rfl, nx HN.out.b hb9⟩
    obtain ⟨ad, rr, hA, hadB, hr, hlen, hcell⟩ := hN.rows.row hlt
    obtain rfl := hA
    obtain ⟨x, rfl⟩ : ∃ x : Stp, rr = x.cs := by
      rw [List.getElem?_map] at hr
      rcases hh : l[i]? with _ | x
      · rw [hh] at hr; cases hr
      · rw [hh] at hr; injection hr with hr; exact ⟨x, hr.symm⟩
    have HCELL := Lib.hid hcell; clear hcell hr hlen hadB
    obtain ⟨y, hy⟩ : ∃ y, (if (1073741824 : Int) < x.by_ then (1073741824 : Int) else x.by_) = y := ⟨_, rfl⟩
    obtain ⟨z, hz⟩ : ∃ z, (if (0 : Int) < y then y else 0) = z := ⟨_, rfl⟩
    have z1 : y ≤ 1073741824 := by rw [← hy]; split <;> omega
    have z2 : 0 ≤ z ∧ z ≤ 1073741824 := by rw [← hz]; split <;> omega
    have z3 := z2.1
    have z4 := z2.2
    clear z1 z2
    have hk' := hk.go z z3 z4
    have hh := hk'.hi (by omega)
    have HK := Lib.hid hk'; clear hk'
    have hk0 : 0 ≤ now ∧ now ≤ 1152921504606846976 := hk.hi hi
    have k0 := hk0.1
    have k1 := hk0.2
    have k2 : 0 ≤ now + z := hh.1
    have k3 : now + z ≤ 1152921504606846976 := hh.2
    clear hk0 hk hh
    have HZ : Hid (Blk (wr.alloc (.cells #[.int .i64 0, .int .i64 0, .int .i64 0, .int .i64 0, .int .u32 0, .int .u32 0, .int .u8 0, .int .u8 0, .int .u8 0, .int .u8 0, .int .u8 0, .int .u8 0, .int .i64 0, .int .u32 0, .int .u32 0, .int .i64 0, .int .u32 0, .int .u32 0, .int .u32 0, .bool false] 48)) wr.heap.size 48 (⟨0, 0, 0, zeroL, false⟩ : Stp).cs.toArray) := Blk.new _ _ _
    have HN := Lib.hid (hN.below (al (rf wr) (.cells #[.int .i64 0, .int .i64 0, .int .i64 0, .int .i64 0, .int .u32 0, .int .u32 0, .int .u8 0, .int .u8 0, .int .u8 0, .int .u8 0, .int .u8 0, .int .u8 0, .int .i64 0, .int .u32 0, .int .u32 0, .int .i64 0, .int .u32 0, .int .u32 0, .int .u32 0, .bool false] 48)))
    have hzx : Hid (bc ≠ wr.heap.size ∧ br ≠ wr.heap.size) := by have a := hN.c.lt; have b := hN.f.lt; exact ⟨by omega, by omega⟩
    have hz3 := hN.b.size
    have HL : Hid (bc < wr.heap.size ∧ br < wr.heap.size ∧ w.heap.size < wr.heap.size) := ⟨hN.c.lt, hN.f.lt, hN.m.lt⟩
    have HLN : Hid ((⟨0, 0, 0, zeroL, false⟩ : Stp).cs.length = x.cs.length) := by show List.length _ = _; rw [Stp.len, Stp.len]
    have HFIT : Hid (0 + x.cs.length ≤ (⟨0, 0, 0, zeroL, false⟩ : Stp).cs.length) := by show 0 + x.cs.length ≤ _; rw [Stp.len, Stp.len]; decide
    have HSZ : Hid ((Try.prog.info? 48).map (·.size) = some x.cs.length) := by show Option.map _ _ = _; rw [Stp.len]; kernel_rfl
    clear hN
    by_cases hk1 : x.kind = 1
    · as_aux_lemma =>
        have q1 : ((x.kind : Int) == 1) = true := by rw [beq_iff_eq]; exact hk1
        clear hk1
        go_wp2_with (first
          | (with_reducible refine wpList_load_any rfl 48 (.tmp 35) rfl (ad.add (i * 20)) (by kernel_rfl) x.cs _ HCELL.out Try.underlying48 (by kernel_rfl) (by rw [Stp.len]; kernel_rfl) ?_)
          | ((with_reducible refine wpList_store_blk rfl 48 9 36 rfl wr.heap.size 0 x.cs ?_ ?_ 48 _ HZ.out HFIT.out HSZ.out (Stp.one _) ?_); (kernel_rfl); (kernel_rfl); intro w2 hB2 g2; rw [splice_full _ _ HLN.out] at hB2; have HX := Lib.hid hB2; have y0 : w2.cell? ⟨wr.heap.size, 0, none⟩ = some (.int .i64 x.kind) := HX.out.cell 0; have y1 : w2.cell? ⟨wr.heap.size, 1, none⟩ = some (.int .i64 x.by_) := HX.out.cell 1; have y2 : w2.cell? ⟨wr.heap.size, 2, none⟩ = some (.int .i64 x.draw) := HX.out.cell 2; have y3 : w2.cell? ⟨wr.heap.size, 19, none⟩ = some (.bool x.own) := HX.out.cell 19; have HN2 := Lib.hid (HN.out.below2 g2 hz3 HL.out); clear hB2 g2 HN HZ HCELL))
        go_region_held3 (fun w' => w'.cell? ⟨wr.heap.size, 2, none⟩ = some (.int .i64 x.draw)) (first | exact y2 | exact keep_x hg3 hzx.out.1.symm (by exact y2) | exact keep_x hg4 hzx.out.2.symm (by exact keep_x hg3 hzx.out.1.symm (by exact y2)) | exact (show w4.cell? _ = _ from keep_x hg4 hzx.out.2.symm (by exact keep_x hg3 hzx.out.1.symm (by exact y2))))
          (first
            | (go_at_call 11; refine (startC bc mac s (now + z) x.draw _ (by exact HN2.out.c) k2 k3).mono ?_; rintro e w3 ⟨v3, rfl, ho3, hC3, hg3⟩)
            | (go_at_call 20; refine (startF br mac r (now + z) x.draw _ (Blk.only (by exact HN2.out.f) hg3 HN2.out.ne.1.symm) k2 k3).mono ?_; rintro e w4 ⟨v4, rfl, ho4, hC4, hg4⟩)
            | (go_at_call 19; refine (rowsC _ _ _ _ _ _ (Out.only (by exact ho3) hg4 (by exact HN2.out.f.lt)) (by exact (((start_rel mac s r HN2.out.rel _ _).2) ▸ ho4))).mono ?_; rintro e w5 ⟨rfl, nn, rfl⟩))
        have hN5 : ∃ s' r', Now w w.heap.size bc br mac (some ad) n l s' r' (w4.drewN nn) := ⟨_, _, (Now.step HN2.out.drew hg3 hC3 hg4 hC4 (start_ok _ HN2.out.ok _ _) (start_rel mac s r HN2.out.rel _ _).1).drewN nn⟩
        obtain ⟨s5, r5, hN5⟩ := hN5
        have HN5 := Lib.hid hN5
        clear hN5 HN2 ho3 ho4 hC3 hC4 hg3 hg4 HX y0 y1 y2 y3 HL hz3 hy hz
        rename_i hHeld
        clear hHeld
        generalize w4.drewN nn = w5 at HN5 ⊢
        go_wp2_with fail
        refine (hasMC bc mac s5 _ HN5.out.c).mono ?_
        rintro e w6 ⟨rfl, hb6⟩
        have hN6 := HN5.out.below hb6
        have Z6 : Hid (Blk (w6.alloc (.cells #[.int .i64 0, .int .u32 0, .int .u32 0, .int .u8 0, .int .u8 0, .int .u8 0, .int .u8 0, .int .u8 0, .int .u8 0, .int .i64 0, .int .u32 0, .int .u32 0, .int .i64 0, .int .u32 0, .int .u32 0, .int .u32 0] 27)) w6.heap.size 27 zeroL.cs.toArray) := Blk.new _ _ _
        have HL6 : Hid (bc < w6.heap.size ∧ br < w6.heap.size ∧ w.heap.size < w6.heap.size) := ⟨hN6.c.lt, hN6.f.lt, hN6.m.lt⟩
        have HN6 := Lib.hid (hN6.below (al (rf w6) (.cells #[.int .i64 0, .int .u32 0, .int .u32 0, .int .u8 0, .int .u8 0, .int .u8 0, .int .u8 0, .int .u8 0, .int .u8 0, .int .i64 0, .int .u32 0, .int .u32 0, .int .i64 0, .int .u32 0, .int .u32 0, .int .u32 0] 27)))
        have HZ6 := Lib.hid hN6.b.size
        have HFL : Hid (0 + (leaseV s5).cs.length ≤ zeroL.cs.length) := by show 0 + List.length _ ≤ _; rw [Ls.len, Ls.len]; decide
        have HSL : Hid ((Try.prog.info? 27).map (·.size) = some (leaseV s5).cs.length) := by show Option.map _ _ = _; rw [Ls.len]; kernel_rfl
        have HLL : Hid (zeroL.cs.length = (leaseV s5).cs.length) := by show List.length _ = _; rw [Ls.len, Ls.len]
        clear hN6 hb6 HN5
        go_wp2_with ((with_reducible refine wpList_store_blk rfl 27 12 106 rfl w6.heap.size 0 (leaseV s5).cs ?_ ?_ 27 _ Z6.out HFL.out HSL.out (Ls.one _) ?_); (kernel_rfl); (kernel_rfl); intro w7 hB7 g7; rw [splice_full _ _ HLL.out] at hB7; have HA7 := Lib.hid hB7; have HN7 := Lib.hid (HN6.out.below2 g7 HZ6.out HL6.out); clear hB7 g7 HN6 Z6)
        refine (hasF br mac r5 _ HN7.out.f).mono ?_
        rintro e w8 ⟨rfl, hb8⟩
        rw [(rel_lease HN7.out.rel).1, (rel_lease HN7.out.rel).2.1]
        have hN8 := HN7.out.below hb8
        have HA8 := Lib.hid ((HA7.out.nx hb8).alloc (.cells #[.int .i64 0, .int .u32 0, .int .u32 0, .int .u8 0, .int .u8 0, .int .u8 0, .int .u8 0, .int .u8 0, .int .u8 0, .int .i64 0, .int .u32 0, .int .u32 0, .int .i64 0, .int .u32 0, .int .u32 0, .int .u32 0] 27))
        have HLT := Lib.hid (HA7.out.nx hb8).lt
        have Z8 : Hid (Blk (w8.alloc (.cells #[.int .i64 0, .int .u32 0, .int .u32 0, .int .u8 0, .int .u8 0, .int .u8 0, .int .u8 0, .int .u8 0, .int .u8 0, .int .i64 0, .int .u32 0, .int .u32 0, .int .i64 0, .int .u32 0, .int .u32 0, .int .u32 0] 27)) w8.heap.size 27 zeroL.cs.toArray) := Blk.new _ _ _
        have HL8 : Hid (bc < w8.heap.size ∧ br < w8.heap.size ∧ w.heap.size < w8.heap.size) := ⟨hN8.c.lt, hN8.f.lt, hN8.m.lt⟩
        have HN8 := Lib.hid (hN8.below (al (rf w8) (.cells #[.int .i64 0, .int .u32 0, .int .u32 0, .int .u8 0, .int .u8 0, .int .u8 0, .int .u8 0, .int .u8 0, .int .u8 0, .int .i64 0, .int .u32 0, .int .u32 0, .int .i64 0, .int .u32 0, .int .u32 0, .int .u32 0] 27)))
        have HZ8 := Lib.hid hN8.b.size
        clear hN8 hb8 HN7 HA7
        go_wp2_with ((with_reducible refine wpList_store_blk rfl 27 14 111 rfl w8.heap.size 0 (leaseV s5).cs ?_ ?_ 27 _ Z8.out HFL.out HSL.out (Ls.one _) ?_); (kernel_rfl); (kernel_rfl); intro w9 hB9 g9; rw [splice_full _ _ HLL.out] at hB9; have HA9 := Lib.hid (HA8.out.only g9 (Nat.ne_of_lt HLT.out)); have HB9 := Lib.hid hB9; have HN9 := Lib.hid (HN8.out.below2 g9 HZ8.out HL8.out); clear hB9 g9 HN8 Z8 HA8)
        have hq := neq_self (leaseV s5)
        have la : Hid (∀ w', (∃ n, w' = w9.drewN n) → ∀ j v, (leaseV s5).cs[j]? = some v → w'.cell? ((⟨w6.heap.size, 0, none⟩ : Addr).add j) = some v) := by
          rintro _ ⟨n, rfl⟩ j v hv
          rw [Addr.add_mid, Nat.zero_add]; exact ((HA9.out.drewN n).cell j).trans (by rw [List.getElem?_toArray]; exact hv)
        have lb : Hid (∀ w', (∃ n, w' = w9.drewN n) → ∀ j v, (leaseV s5).cs[j]? = some v → w'.cell? ((⟨w8.heap.size, 0, none⟩ : Addr).add j) = some v) := by
          rintro _ ⟨n, rfl⟩ j v hv
          rw [Addr.add_mid, Nat.zero_add]; exact ((HB9.out.drewN n).cell j).trans (by rw [List.getElem?_toArray]; exact hv)
        have c6 : w9.cell? ⟨br, 6, none⟩ = some (.int .i64 s5.st) := Rel.cell6 HN9.out.f HN9.out.rel
        have qq : ((s5.st : Int) != s5.st) = false := by simp
        clear HFL HLL HA9 HB9 HLT
        generalize (leaseV s5).cs = X at hq la lb HSL ⊢
        generalize decide (3 ≤ s5.st) = bb
        refine wp_region_quiet_lit (by kernel_rfl) (by kernel_rfl) ?_
        repeat (go_big_quiet_step (fail))
        refine wpQuiet_load_row (by kernel_rfl) 27 (.tmp 12) rfl ⟨w6.heap.size, 0, none⟩ rfl X _ la.out Try.underlying27 rfl HSL.out (fun K hK => ?_)
        go_simp
        refine hK _ ?_
        clear hK K
        repeat (go_big_quiet_step (fail))
        refine wpQuiet_load_row (by kernel_rfl) 27 (.tmp 14) rfl ⟨w8.heap.size, 0, none⟩ rfl X _ lb.out Try.underlying27 rfl HSL.out (fun K hK => ?_)
        go_simp
        refine hK _ ?_
        clear hK K
        repeat (go_big_quiet_step ((go_at_call 13; exact Calls.quiet_of_same (stateC bc mac s5 _ (by exact HN9.out.c)))))
        refine wpQuiet_nil ?_
        intro _ hw'
        obtain ⟨nq, hw''⟩ := hw'
        subst hw''
        go_wp2
        go_roundw
        case rel => exact ⟨now + z, i + 1, s5, r5, by go_num, by go_num, by omega, HK.out, HN9.out.drewN _⟩
        case measure => simp [intOf]; omega
    by_cases hk2 : x.kind = 2
    · by_cases hown : x.own = true
      · as_aux_lemma =>
          have q1 : ((x.kind : Int) == 1) = false := by rw [beq_eq_false_iff_ne]; exact (by omega)
          have q2 : ((x.kind : Int) == 2) = true := by rw [beq_iff_eq]; exact hk2
          have q5 : x.own = true := hown
          clear hk2 hown
          have HF6 : Hid (3 + (Lm6 mac).length ≤ ({ x.m with op := 2, id := s.id } : Ls).cs.length) := by show 3 + List.length _ ≤ List.length _; rw [Ls.len]; show 3 + 6 ≤ 16; decide
          have HS6 : Hid ((Try.prog.info? 25).map (·.size) = some (Lm6 mac).length) := by show Option.map _ _ = _; kernel_rfl
          have HXM : Hid ((x.cs.drop 3).take 16 = x.m.cs) := rfl
          have HF2 : Hid (0 + x.m.cs.length ≤ zeroL.cs.length) := by show 0 + List.length _ ≤ _; rw [Ls.len, Ls.len]; decide
          have HS2 : Hid ((Try.prog.info? 27).map (·.size) = some x.m.cs.length) := by show Option.map _ _ = _; rw [Ls.len]; kernel_rfl
          have HL2 : Hid (zeroL.cs.length = x.m.cs.length) := by show List.length _ = _; rw [Ls.len, Ls.len]
          go_wp2_with (first
            | (with_reducible refine wpList_load_any rfl 48 (.tmp 35) rfl (ad.add (i * 20)) (by kernel_rfl) x.cs _ HCELL.out Try.underlying48 (by kernel_rfl) (by rw [Stp.len]; kernel_rfl) ?_)
            | ((with_reducible refine wpList_store_blk rfl 48 9 36 rfl wr.heap.size 0 x.cs ?_ ?_ 48 _ HZ.out HFIT.out HSZ.out (Stp.one _) ?_); (kernel_rfl); (kernel_rfl); intro w2 hB2 g2; rw [splice_full _ _ HLN.out] at hB2; have HX := Lib.hid hB2; have y0 : w2.cell? ⟨wr.heap.size, 0, none⟩ = some (.int .i64 x.kind) := HX.out.cell 0; have y1 : w2.cell? ⟨wr.heap.size, 1, none⟩ = some (.int .i64 x.by_) := HX.out.cell 1; have y2 : w2.cell? ⟨wr.heap.size, 2, none⟩ = some (.int .i64 x.draw) := HX.out.cell 2; have y3 : w2.cell? ⟨wr.heap.size, 19, none⟩ = some (.bool x.own) := HX.out.cell 19; have HN2 := Lib.hid (HN.out.below2 g2 hz3 HL.out); clear hB2 g2 HN HZ HCELL; rw [show w2.cell? ⟨wr.heap.size, 19, none⟩ = some (.bool x.own) ↔ w2.cell? ⟨wr.heap.size, 19, none⟩ = some (.bool true) by rw [q5]] at y3; have ML := Lib.hid HX.out.lt; have ZM : Hid (Blk (w2.alloc (.cells #[.int .i64 0, .int .u32 0, .int .u32 0, .int .u8 0, .int .u8 0, .int .u8 0, .int .u8 0, .int .u8 0, .int .u8 0, .int .i64 0, .int .u32 0, .int .u32 0, .int .i64 0, .int .u32 0, .int .u32 0, .int .u32 0] 27)) w2.heap.size 27 zeroL.cs.toArray) := Blk.new _ _ _; have HXa := Lib.hid (HX.out.alloc (.cells #[.int .i64 0, .int .u32 0, .int .u32 0, .int .u8 0, .int .u8 0, .int .u8 0, .int .u8 0, .int .u8 0, .int .u8 0, .int .i64 0, .int .u32 0, .int .u32 0, .int .i64 0, .int .u32 0, .int .u32 0, .int .u32 0] 27)); have HNa := Lib.hid (HN2.out.below (al (rf w2) (.cells #[.int .i64 0, .int .u32 0, .int .u32 0, .int .u8 0, .int .u8 0, .int .u8 0, .int .u8 0, .int .u8 0, .int .u8 0, .int .i64 0, .int .u32 0, .int .u32 0, .int .i64 0, .int .u32 0, .int .u32 0, .int .u32 0] 27))); have HLa : Hid (bc < w2.heap.size ∧ br < w2.heap.size ∧ w.heap.size < w2.heap.size) := ⟨HN2.out.c.lt, HN2.out.f.lt, HN2.out.m.lt⟩; have HZa := Lib.hid HN2.out.b.size)
            | (with_reducible refine wpList_load_blk rfl 27 65 rfl wr.heap.size 3 16 (by kernel_rfl) 48 _ x.m.cs HX.out HXM.out _ Try.underlying27 (by kernel_rfl) (by kernel_rfl) ?_)
            | ((with_reducible refine wpList_store_blk rfl 27 11 66 rfl w2.heap.size 0 x.m.cs ?_ ?_ 27 _ ZM.out HF2.out HS2.out (Ls.one _) ?_); (kernel_rfl); (kernel_rfl); intro w2b hBb gb; rw [splice_full _ _ HL2.out] at hBb; have HM := Lib.hid hBb; have HNb := Lib.hid (HNa.out.below2 gb HZa.out HLa.out); have HXb := Lib.hid (HXa.out.only gb (Nat.ne_of_lt ML.out)); clear hBb gb HNa HXa ZM HN2 y0 y1 y2 y3; have u2 : w2b.cell? ⟨wr.heap.size, 2, none⟩ = some (.int .i64 x.draw) := HXb.out.cell 2; have u3 : w2b.cell? ⟨wr.heap.size, 19, none⟩ = some (.bool x.own) := HXb.out.cell 19; rw [q5] at u3; have m0 : w2b.cell? ⟨w2.heap.size, 0, none⟩ = some (.int .i64 x.m.op) := HM.out.cell 0; have fm0 := HM.out.frozen 0; have m1 : w2b.cell? ⟨w2.heap.size, 1, none⟩ = some (.int .u32 x.m.id) := HM.out.cell 1; have fm1 := HM.out.frozen 1; have r7 : w2b.cell? ⟨br, 7, none⟩ = some (.int .u32 s.id) := Rel.cell7 HNb.out.f HNb.out.rel; have nb1 : br ≠ w2.heap.size := Nat.ne_of_lt HLa.out.2.1; have nb2 : w2.heap.size ≠ br := fun e => nb1 e.symm; have HM3 : Hid (Blk ((w2b.setCell ⟨w2.heap.size, 0, none⟩ (.int .i64 2)).setCell ⟨w2.heap.size, 1, none⟩ (.int .u32 s.id)) w2.heap.size 27 ({ x.m with op := 2, id := s.id } : Ls).cs.toArray) := Blk.eq_ ((HM.out.set_ 0 _).set_ 1 _) (by kernel_rfl); have HMcc : Hid (Blk ((w2b.setCell ⟨w2.heap.size, 0, none⟩ (.int .i64 2)).setCell ⟨w2.heap.size, 1, none⟩ (.int .u32 s.id)) w.heap.size 25 (Lm6 mac).toArray) := Blk.far (p := ⟨w2.heap.size, 1, none⟩) (Blk.far (p := ⟨w2.heap.size, 0, none⟩) HNb.out.m (Nat.ne_of_lt HLa.out.2.2) _) (Nat.ne_of_lt HLa.out.2.2) _; have GM : Hid (w2b.grownBy ((w2b.setCell ⟨w2.heap.size, 0, none⟩ (.int .i64 2)).setCell ⟨w2.heap.size, 1, none⟩ (.int .u32 s.id)) (some w2.heap.size)) := only_setCell (p := ⟨w2.heap.size, 1, none⟩) (only_setCell (p := ⟨w2.heap.size, 0, none⟩) (World.grownBy.refl _ _) (.inl rfl) _) (.inl rfl) _)
            | (with_reducible refine wpList_load_blk rfl 25 2 rfl w.heap.size 0 6 (by kernel_rfl) 25 (Lm6 mac) (Lm6 mac) HMcc.out (by kernel_rfl) _ Try.underlying25 (by kernel_rfl) (by kernel_rfl) ?_)
            | ((with_reducible refine wpList_store_blk rfl 25 76 75 rfl w2.heap.size 3 (Lm6 mac) ?_ ?_ 27 _ HM3.out HF6.out HS6.out (lm6one mac) ?_); (kernel_rfl); (kernel_rfl); intro w2c hBc gc; have HM5 : Hid (Blk w2c w2.heap.size 27 ({ x.m with op := 2, id := s.id, cl := mac } : Ls).cs.toArray) := Blk.eq_ hBc (by kernel_rfl); have GC := Lib.hid (only_trans GM.out gc); clear hBc gc GM HMcc HM3 HM m0 fm0 m1 fm1 r7 nb1 nb2))
          have HMB : Hid (w2.heap.size ≠ bc ∧ w2.heap.size ≠ br) := by have := HLa.out; exact ⟨by omega, by omega⟩
          have HN2 := Lib.hid (HNb.out.only GC.out HMB.out.1 HMB.out.2 (by have := HLa.out; omega) HZa.out)
          have u5 := keep_x GC.out (Nat.ne_of_lt ML.out) u2
          clear HNb HXb u2 u3 HX HLa HZa ML GC
          have u2 := u5
          clear u5
          generalize w2.heap.size = mb at HMB HM5 ⊢
          generalize hm5 : ({ x.m with op := 2, id := s.id, cl := mac } : Ls) = m5 at HM5 ⊢
          clear hm5
          generalize w2c = W5 at HN2 HM5 u2 ⊢
          have KK : Hid (∀ w', Blk w' mb 27 m5.cs.toArray → w'.cell? ⟨wr.heap.size, 2, none⟩ = some (.int .i64 x.draw) → (w'.cell? ⟨mb, 0, none⟩ = some (.int .i64 m5.op) ∧ w'.cell? ⟨mb, 1, none⟩ = some (.int .u32 m5.id) ∧ w'.cell? ⟨mb, 2, none⟩ = some (.int .u32 m5.yours) ∧ w'.cell? ⟨mb, 3, none⟩ = some (.int .u8 m5.cl.a) ∧ w'.cell? ⟨mb, 4, none⟩ = some (.int .u8 m5.cl.b) ∧ w'.cell? ⟨mb, 5, none⟩ = some (.int .u8 m5.cl.c) ∧ w'.cell? ⟨mb, 6, none⟩ = some (.int .u8 m5.cl.d) ∧ w'.cell? ⟨mb, 7, none⟩ = some (.int .u8 m5.cl.e) ∧ w'.cell? ⟨mb, 8, none⟩ = some (.int .u8 m5.cl.f) ∧ w'.cell? ⟨mb, 9, none⟩ = some (.int .i64 m5.ty) ∧ w'.cell? ⟨mb, 10, none⟩ = some (.int .u32 m5.server) ∧ w'.cell? ⟨mb, 11, none⟩ = some (.int .u32 m5.asked) ∧ w'.cell? ⟨mb, 12, none⟩ = some (.int .i64 m5.time) ∧ w'.cell? ⟨mb, 13, none⟩ = some (.int .u32 m5.mask) ∧ w'.cell? ⟨mb, 14, none⟩ = some (.int .u32 m5.router) ∧ w'.cell? ⟨mb, 15, none⟩ = some (.int .u32 m5.resolver) ∧ w'.cell? ⟨wr.heap.size, 2, none⟩ = some (.int .i64 x.draw))) := fun w' a b => ⟨a.cell 0, a.cell 1, a.cell 2, a.cell 3, a.cell 4, a.cell 5, a.cell 6, a.cell 7, a.cell 8, a.cell 9, a.cell 10, a.cell 11, a.cell 12, a.cell 13, a.cell 14, a.cell 15, b⟩
          have hmb := HMB.out.1
          have hmr := HMB.out.2
          have HMC := HM5
          clear HM5
          go_region_held3 (fun w' => w'.cell? ⟨mb, 0, none⟩ = some (.int .i64 m5.op) ∧ w'.cell? ⟨mb, 1, none⟩ = some (.int .u32 m5.id) ∧ w'.cell? ⟨mb, 2, none⟩ = some (.int .u32 m5.yours) ∧ w'.cell? ⟨mb, 3, none⟩ = some (.int .u8 m5.cl.a) ∧ w'.cell? ⟨mb, 4, none⟩ = some (.int .u8 m5.cl.b) ∧ w'.cell? ⟨mb, 5, none⟩ = some (.int .u8 m5.cl.c) ∧ w'.cell? ⟨mb, 6, none⟩ = some (.int .u8 m5.cl.d) ∧ w'.cell? ⟨mb, 7, none⟩ = some (.int .u8 m5.cl.e) ∧ w'.cell? ⟨mb, 8, none⟩ = some (.int .u8 m5.cl.f) ∧ w'.cell? ⟨mb, 9, none⟩ = some (.int .i64 m5.ty) ∧ w'.cell? ⟨mb, 10, none⟩ = some (.int .u32 m5.server) ∧ w'.cell? ⟨mb, 11, none⟩ = some (.int .u32 m5.asked) ∧ w'.cell? ⟨mb, 12, none⟩ = some (.int .i64 m5.time) ∧ w'.cell? ⟨mb, 13, none⟩ = some (.int .u32 m5.mask) ∧ w'.cell? ⟨mb, 14, none⟩ = some (.int .u32 m5.router) ∧ w'.cell? ⟨mb, 15, none⟩ = some (.int .u32 m5.resolver) ∧ w'.cell? ⟨wr.heap.size, 2, none⟩ = some (.int .i64 x.draw)) (first | exact KK.out _ (by exact HMC.out) (by exact u2) | exact KK.out _ (Blk.only (by exact HMC.out) hg3 hmb) (keep_x hg3 hzx.out.1.symm (by exact u2)) | exact KK.out _ (Blk.only (by exact Blk.only (by exact HMC.out) hg3 hmb) hg4 hmr) (keep_x hg4 hzx.out.2.symm (by exact keep_x hg3 hzx.out.1.symm (by exact u2))) | exact KK.out _ (show Blk w4 _ _ _ from Blk.only (by exact Blk.only (by exact HMC.out) hg3 hmb) hg4 hmr) (show w4.cell? _ = _ from keep_x hg4 hzx.out.2.symm (by exact keep_x hg3 hzx.out.1.symm (by exact u2))))
            (first
              | (go_at_call 12; refine (hearC bc mac s m5 (now + z) x.draw _ (by exact HN2.out.c) HN2.out.ok k2 k3).mono ?_; rintro e w3 ⟨v3, rfl, ho3, hC3, hg3⟩)
              | (go_at_call 21; refine (hearF br mac r m5 (now + z) x.draw _ (Blk.only (by exact HN2.out.f) hg3 HN2.out.ne.1.symm) k2 k3).mono ?_; rintro e w4 ⟨v4, rfl, ho4, hC4, hg4⟩)
              | (go_at_call 19; refine (rowsC _ _ _ _ _ _ (Out.only (by exact ho3) hg4 (by exact HN2.out.f.lt)) (by exact ((hear_rel mac s r HN2.out.rel HN2.out.ok m5 _ _).2 ▸ ho4))).mono ?_; rintro e w5 ⟨rfl, nn, rfl⟩))
          have hN5 : ∃ s' r', Now w w.heap.size bc br mac (some ad) n l s' r' (w4.drewN nn) := ⟨_, _, (Now.step HN2.out.drew hg3 hC3 hg4 hC4 (hear_ok mac s HN2.out.ok m5 _ _ k2 k3) (hear_rel mac s r HN2.out.rel HN2.out.ok m5 _ _).1).drewN nn⟩
          obtain ⟨s5, r5, hN5⟩ := hN5
          have HN5 := Lib.hid hN5
          clear hN5 HN2 ho3 ho4 hC3 hC4 hg3 hg4 u2 KK hmb hmr HMC HMB HXM HF2 HS2 HL2 HL hz3 hy hz
          rename_i hHeld
          clear hHeld
          generalize w4.drewN nn = w5 at HN5 ⊢
          go_wp2_with fail
          refine (hasMC bc mac s5 _ HN5.out.c).mono ?_
          rintro e w6 ⟨rfl, hb6⟩
          have hN6 := HN5.out.below hb6
          have Z6 : Hid (Blk (w6.alloc (.cells #[.int .i64 0, .int .u32 0, .int .u32 0, .int .u8 0, .int .u8 0, .int .u8 0, .int .u8 0, .int .u8 0, .int .u8 0, .int .i64 0, .int .u32 0, .int .u32 0, .int .i64 0, .int .u32 0, .int .u32 0, .int .u32 0] 27)) w6.heap.size 27 zeroL.cs.toArray) := Blk.new _ _ _
          have HL6 : Hid (bc < w6.heap.size ∧ br < w6.heap.size ∧ w.heap.size < w6.heap.size) := ⟨hN6.c.lt, hN6.f.lt, hN6.m.lt⟩
          have HN6 := Lib.hid (hN6.below (al (rf w6) (.cells #[.int .i64 0, .int .u32 0, .int .u32 0, .int .u8 0, .int .u8 0, .int .u8 0, .int .u8 0, .int .u8 0, .int .u8 0, .int .i64 0, .int .u32 0, .int .u32 0, .int .i64 0, .int .u32 0, .int .u32 0, .int .u32 0] 27)))
          have HZ6 := Lib.hid hN6.b.size
          have HFL : Hid (0 + (leaseV s5).cs.length ≤ zeroL.cs.length) := by show 0 + List.length _ ≤ _; rw [Ls.len, Ls.len]; decide
          have HSL : Hid ((Try.prog.info? 27).map (·.size) = some (leaseV s5).cs.length) := by show Option.map _ _ = _; rw [Ls.len]; kernel_rfl
          have HLL : Hid (zeroL.cs.length = (leaseV s5).cs.length) := by show List.length _ = _; rw [Ls.len, Ls.len]
          clear hN6 hb6 HN5
          go_wp2_with ((with_reducible refine wpList_store_blk rfl 27 12 106 rfl w6.heap.size 0 (leaseV s5).cs ?_ ?_ 27 _ Z6.out HFL.out HSL.out (Ls.one _) ?_); (kernel_rfl); (kernel_rfl); intro w7 hB7 g7; rw [splice_full _ _ HLL.out] at hB7; have HA7 := Lib.hid hB7; have HN7 := Lib.hid (HN6.out.below2 g7 HZ6.out HL6.out); clear hB7 g7 HN6 Z6)
          refine (hasF br mac r5 _ HN7.out.f).mono ?_
          rintro e w8 ⟨rfl, hb8⟩
          rw [(rel_lease HN7.out.rel).1, (rel_lease HN7.out.rel).2.1]
          have hN8 := HN7.out.below hb8
          have HA8 := Lib.hid ((HA7.out.nx hb8).alloc (.cells #[.int .i64 0, .int .u32 0, .int .u32 0, .int .u8 0, .int .u8 0, .int .u8 0, .int .u8 0, .int .u8 0, .int .u8 0, .int .i64 0, .int .u32 0, .int .u32 0, .int .i64 0, .int .u32 0, .int .u32 0, .int .u32 0] 27))
          have HLT := Lib.hid (HA7.out.nx hb8).lt
          have Z8 : Hid (Blk (w8.alloc (.cells #[.int .i64 0, .int .u32 0, .int .u32 0, .int .u8 0, .int .u8 0, .int .u8 0, .int .u8 0, .int .u8 0, .int .u8 0, .int .i64 0, .int .u32 0, .int .u32 0, .int .i64 0, .int .u32 0, .int .u32 0, .int .u32 0] 27)) w8.heap.size 27 zeroL.cs.toArray) := Blk.new _ _ _
          have HL8 : Hid (bc < w8.heap.size ∧ br < w8.heap.size ∧ w.heap.size < w8.heap.size) := ⟨hN8.c.lt, hN8.f.lt, hN8.m.lt⟩
          have HN8 := Lib.hid (hN8.below (al (rf w8) (.cells #[.int .i64 0, .int .u32 0, .int .u32 0, .int .u8 0, .int .u8 0, .int .u8 0, .int .u8 0, .int .u8 0, .int .u8 0, .int .i64 0, .int .u32 0, .int .u32 0, .int .i64 0, .int .u32 0, .int .u32 0, .int .u32 0] 27)))
          have HZ8 := Lib.hid hN8.b.size
          clear hN8 hb8 HN7 HA7
          go_wp2_with ((with_reducible refine wpList_store_blk rfl 27 14 111 rfl w8.heap.size 0 (leaseV s5).cs ?_ ?_ 27 _ Z8.out HFL.out HSL.out (Ls.one _) ?_); (kernel_rfl); (kernel_rfl); intro w9 hB9 g9; rw [splice_full _ _ HLL.out] at hB9; have HA9 := Lib.hid (HA8.out.only g9 (Nat.ne_of_lt HLT.out)); have HB9 := Lib.hid hB9; have HN9 := Lib.hid (HN8.out.below2 g9 HZ8.out HL8.out); clear hB9 g9 HN8 Z8 HA8)
          have hq := neq_self (leaseV s5)
          have la : Hid (∀ w', (∃ n, w' = w9.drewN n) → ∀ j v, (leaseV s5).cs[j]? = some v → w'.cell? ((⟨w6.heap.size, 0, none⟩ : Addr).add j) = some v) := by
            rintro _ ⟨n, rfl⟩ j v hv
            rw [Addr.add_mid, Nat.zero_add]; exact ((HA9.out.drewN n).cell j).trans (by rw [List.getElem?_toArray]; exact hv)
          have lb : Hid (∀ w', (∃ n, w' = w9.drewN n) → ∀ j v, (leaseV s5).cs[j]? = some v → w'.cell? ((⟨w8.heap.size, 0, none⟩ : Addr).add j) = some v) := by
            rintro _ ⟨n, rfl⟩ j v hv
            rw [Addr.add_mid, Nat.zero_add]; exact ((HB9.out.drewN n).cell j).trans (by rw [List.getElem?_toArray]; exact hv)
          have c6 : w9.cell? ⟨br, 6, none⟩ = some (.int .i64 s5.st) := Rel.cell6 HN9.out.f HN9.out.rel
          have qq : ((s5.st : Int) != s5.st) = false := by simp
          clear HFL HLL HA9 HB9 HLT
          generalize (leaseV s5).cs = X at hq la lb HSL ⊢
          generalize decide (3 ≤ s5.st) = bb
          refine wp_region_quiet_lit (by kernel_rfl) (by kernel_rfl) ?_
          repeat (go_big_quiet_step (fail))
          refine wpQuiet_load_row (by kernel_rfl) 27 (.tmp 12) rfl ⟨w6.heap.size, 0, none⟩ rfl X _ la.out Try.underlying27 rfl HSL.out (fun K hK => ?_)
          go_simp
          refine hK _ ?_
          clear hK K
          repeat (go_big_quiet_step (fail))
          refine wpQuiet_load_row (by kernel_rfl) 27 (.tmp 14) rfl ⟨w8.heap.size, 0, none⟩ rfl X _ lb.out Try.underlying27 rfl HSL.out (fun K hK => ?_)
          go_simp
          refine hK _ ?_
          clear hK K
          repeat (go_big_quiet_step ((go_at_call 13; exact Calls.quiet_of_same (stateC bc mac s5 _ (by exact HN9.out.c)))))
          refine wpQuiet_nil ?_
          intro _ hw'
          obtain ⟨nq, hw''⟩ := hw'
          subst hw''
          go_wp2
          go_roundw
          case rel => exact ⟨now + z, i + 1, s5, r5, by go_num, by go_num, by omega, HK.out, HN9.out.drewN _⟩
          case measure => simp [intOf]; omega
      · have hown : x.own = false := by simpa using hown
        as_aux_lemma =>
          have q1 : ((x.kind : Int) == 1) = false := by rw [beq_eq_false_iff_ne]; exact (by omega)
          have q2 : ((x.kind : Int) == 2) = true := by rw [beq_iff_eq]; exact hk2
          have q5 : x.own = false := hown
          clear hk2 hown
          have HXM : Hid ((x.cs.drop 3).take 16 = x.m.cs) := rfl
          have HF2 : Hid (0 + x.m.cs.length ≤ zeroL.cs.length) := by show 0 + List.length _ ≤ _; rw [Ls.len, Ls.len]; decide
          have HS2 : Hid ((Try.prog.info? 27).map (·.size) = some x.m.cs.length) := by show Option.map _ _ = _; rw [Ls.len]; kernel_rfl
          have HL2 : Hid (zeroL.cs.length = x.m.cs.length) := by show List.length _ = _; rw [Ls.len, Ls.len]
          go_wp2_with (first
            | (with_reducible refine wpList_load_any rfl 48 (.tmp 35) rfl (ad.add (i * 20)) (by kernel_rfl) x.cs _ HCELL.out Try.underlying48 (by kernel_rfl) (by rw [Stp.len]; kernel_rfl) ?_)
            | ((with_reducible refine wpList_store_blk rfl 48 9 36 rfl wr.heap.size 0 x.cs ?_ ?_ 48 _ HZ.out HFIT.out HSZ.out (Stp.one _) ?_); (kernel_rfl); (kernel_rfl); intro w2 hB2 g2; rw [splice_full _ _ HLN.out] at hB2; have HX := Lib.hid hB2; have y0 : w2.cell? ⟨wr.heap.size, 0, none⟩ = some (.int .i64 x.kind) := HX.out.cell 0; have y1 : w2.cell? ⟨wr.heap.size, 1, none⟩ = some (.int .i64 x.by_) := HX.out.cell 1; have y2 : w2.cell? ⟨wr.heap.size, 2, none⟩ = some (.int .i64 x.draw) := HX.out.cell 2; have y3 : w2.cell? ⟨wr.heap.size, 19, none⟩ = some (.bool x.own) := HX.out.cell 19; have HN2 := Lib.hid (HN.out.below2 g2 hz3 HL.out); clear hB2 g2 HN HZ HCELL; rw [show w2.cell? ⟨wr.heap.size, 19, none⟩ = some (.bool x.own) ↔ w2.cell? ⟨wr.heap.size, 19, none⟩ = some (.bool false) by rw [q5]] at y3; have ML := Lib.hid HX.out.lt; have ZM : Hid (Blk (w2.alloc (.cells #[.int .i64 0, .int .u32 0, .int .u32 0, .int .u8 0, .int .u8 0, .int .u8 0, .int .u8 0, .int .u8 0, .int .u8 0, .int .i64 0, .int .u32 0, .int .u32 0, .int .i64 0, .int .u32 0, .int .u32 0, .int .u32 0] 27)) w2.heap.size 27 zeroL.cs.toArray) := Blk.new _ _ _; have HXa := Lib.hid (HX.out.alloc (.cells #[.int .i64 0, .int .u32 0, .int .u32 0, .int .u8 0, .int .u8 0, .int .u8 0, .int .u8 0, .int .u8 0, .int .u8 0, .int .i64 0, .int .u32 0, .int .u32 0, .int .i64 0, .int .u32 0, .int .u32 0, .int .u32 0] 27)); have HNa := Lib.hid (HN2.out.below (al (rf w2) (.cells #[.int .i64 0, .int .u32 0, .int .u32 0, .int .u8 0, .int .u8 0, .int .u8 0, .int .u8 0, .int .u8 0, .int .u8 0, .int .i64 0, .int .u32 0, .int .u32 0, .int .i64 0, .int .u32 0, .int .u32 0, .int .u32 0] 27))); have HLa : Hid (bc < w2.heap.size ∧ br < w2.heap.size ∧ w.heap.size < w2.heap.size) := ⟨HN2.out.c.lt, HN2.out.f.lt, HN2.out.m.lt⟩; have HZa := Lib.hid HN2.out.b.size)
            | (with_reducible refine wpList_load_blk rfl 27 65 rfl wr.heap.size 3 16 (by kernel_rfl) 48 _ x.m.cs HX.out HXM.out _ Try.underlying27 (by kernel_rfl) (by kernel_rfl) ?_)
            | ((with_reducible refine wpList_store_blk rfl 27 11 66 rfl w2.heap.size 0 x.m.cs ?_ ?_ 27 _ ZM.out HF2.out HS2.out (Ls.one _) ?_); (kernel_rfl); (kernel_rfl); intro w2b hBb gb; rw [splice_full _ _ HL2.out] at hBb; have HM := Lib.hid hBb; have HNb := Lib.hid (HNa.out.below2 gb HZa.out HLa.out); have HXb := Lib.hid (HXa.out.only gb (Nat.ne_of_lt ML.out)); clear hBb gb HNa HXa ZM HN2 y0 y1 y2 y3; have u2 : w2b.cell? ⟨wr.heap.size, 2, none⟩ = some (.int .i64 x.draw) := HXb.out.cell 2; have u3 : w2b.cell? ⟨wr.heap.size, 19, none⟩ = some (.bool x.own) := HXb.out.cell 19; rw [q5] at u3))
          have HN2 := HNb
          have HM5 := HM
          have HMB : Hid (w2.heap.size ≠ bc ∧ w2.heap.size ≠ br) := by have := HLa.out; exact ⟨by omega, by omega⟩
          clear HNb HM HXb u3 HX HLa HZa ML
          generalize w2.heap.size = mb at HMB HM5 ⊢
          generalize x.m = m5 at HM5 HXM HF2 HS2 HL2 ⊢
          generalize w2b = W5 at HN2 HM5 u2 ⊢
          have KK : Hid (∀ w', Blk w' mb 27 m5.cs.toArray → w'.cell? ⟨wr.heap.size, 2, none⟩ = some (.int .i64 x.draw) → (w'.cell? ⟨mb, 0, none⟩ = some (.int .i64 m5.op) ∧ w'.cell? ⟨mb, 1, none⟩ = some (.int .u32 m5.id) ∧ w'.cell? ⟨mb, 2, none⟩ = some (.int .u32 m5.yours) ∧ w'.cell? ⟨mb, 3, none⟩ = some (.int .u8 m5.cl.a) ∧ w'.cell? ⟨mb, 4, none⟩ = some (.int .u8 m5.cl.b) ∧ w'.cell? ⟨mb, 5, none⟩ = some (.int .u8 m5.cl.c) ∧ w'.cell? ⟨mb, 6, none⟩ = some (.int .u8 m5.cl.d) ∧ w'.cell? ⟨mb, 7, none⟩ = some (.int .u8 m5.cl.e) ∧ w'.cell? ⟨mb, 8, none⟩ = some (.int .u8 m5.cl.f) ∧ w'.cell? ⟨mb, 9, none⟩ = some (.int .i64 m5.ty) ∧ w'.cell? ⟨mb, 10, none⟩ = some (.int .u32 m5.server) ∧ w'.cell? ⟨mb, 11, none⟩ = some (.int .u32 m5.asked) ∧ w'.cell? ⟨mb, 12, none⟩ = some (.int .i64 m5.time) ∧ w'.cell? ⟨mb, 13, none⟩ = some (.int .u32 m5.mask) ∧ w'.cell? ⟨mb, 14, none⟩ = some (.int .u32 m5.router) ∧ w'.cell? ⟨mb, 15, none⟩ = some (.int .u32 m5.resolver) ∧ w'.cell? ⟨wr.heap.size, 2, none⟩ = some (.int .i64 x.draw))) := fun w' a b => ⟨a.cell 0, a.cell 1, a.cell 2, a.cell 3, a.cell 4, a.cell 5, a.cell 6, a.cell 7, a.cell 8, a.cell 9, a.cell 10, a.cell 11, a.cell 12, a.cell 13, a.cell 14, a.cell 15, b⟩
          have hmb := HMB.out.1
          have hmr := HMB.out.2
          have HMC := HM5
          clear HM5
          go_region_held3 (fun w' => w'.cell? ⟨mb, 0, none⟩ = some (.int .i64 m5.op) ∧ w'.cell? ⟨mb, 1, none⟩ = some (.int .u32 m5.id) ∧ w'.cell? ⟨mb, 2, none⟩ = some (.int .u32 m5.yours) ∧ w'.cell? ⟨mb, 3, none⟩ = some (.int .u8 m5.cl.a) ∧ w'.cell? ⟨mb, 4, none⟩ = some (.int .u8 m5.cl.b) ∧ w'.cell? ⟨mb, 5, none⟩ = some (.int .u8 m5.cl.c) ∧ w'.cell? ⟨mb, 6, none⟩ = some (.int .u8 m5.cl.d) ∧ w'.cell? ⟨mb, 7, none⟩ = some (.int .u8 m5.cl.e) ∧ w'.cell? ⟨mb, 8, none⟩ = some (.int .u8 m5.cl.f) ∧ w'.cell? ⟨mb, 9, none⟩ = some (.int .i64 m5.ty) ∧ w'.cell? ⟨mb, 10, none⟩ = some (.int .u32 m5.server) ∧ w'.cell? ⟨mb, 11, none⟩ = some (.int .u32 m5.asked) ∧ w'.cell? ⟨mb, 12, none⟩ = some (.int .i64 m5.time) ∧ w'.cell? ⟨mb, 13, none⟩ = some (.int .u32 m5.mask) ∧ w'.cell? ⟨mb, 14, none⟩ = some (.int .u32 m5.router) ∧ w'.cell? ⟨mb, 15, none⟩ = some (.int .u32 m5.resolver) ∧ w'.cell? ⟨wr.heap.size, 2, none⟩ = some (.int .i64 x.draw)) (first | exact KK.out _ (by exact HMC.out) (by exact u2) | exact KK.out _ (Blk.only (by exact HMC.out) hg3 hmb) (keep_x hg3 hzx.out.1.symm (by exact u2)) | exact KK.out _ (Blk.only (by exact Blk.only (by exact HMC.out) hg3 hmb) hg4 hmr) (keep_x hg4 hzx.out.2.symm (by exact keep_x hg3 hzx.out.1.symm (by exact u2))) | exact KK.out _ (show Blk w4 _ _ _ from Blk.only (by exact Blk.only (by exact HMC.out) hg3 hmb) hg4 hmr) (show w4.cell? _ = _ from keep_x hg4 hzx.out.2.symm (by exact keep_x hg3 hzx.out.1.symm (by exact u2))))
            (first
              | (go_at_call 12; refine (hearC bc mac s m5 (now + z) x.draw _ (by exact HN2.out.c) HN2.out.ok k2 k3).mono ?_; rintro e w3 ⟨v3, rfl, ho3, hC3, hg3⟩)
              | (go_at_call 21; refine (hearF br mac r m5 (now + z) x.draw _ (Blk.only (by exact HN2.out.f) hg3 HN2.out.ne.1.symm) k2 k3).mono ?_; rintro e w4 ⟨v4, rfl, ho4, hC4, hg4⟩)
              | (go_at_call 19; refine (rowsC _ _ _ _ _ _ (Out.only (by exact ho3) hg4 (by exact HN2.out.f.lt)) (by exact ((hear_rel mac s r HN2.out.rel HN2.out.ok m5 _ _).2 ▸ ho4))).mono ?_; rintro e w5 ⟨rfl, nn, rfl⟩))
          have hN5 : ∃ s' r', Now w w.heap.size bc br mac (some ad) n l s' r' (w4.drewN nn) := ⟨_, _, (Now.step HN2.out.drew hg3 hC3 hg4 hC4 (hear_ok mac s HN2.out.ok m5 _ _ k2 k3) (hear_rel mac s r HN2.out.rel HN2.out.ok m5 _ _).1).drewN nn⟩
          obtain ⟨s5, r5, hN5⟩ := hN5
          have HN5 := Lib.hid hN5
          clear hN5 HN2 ho3 ho4 hC3 hC4 hg3 hg4 u2 KK hmb hmr HMC HMB HXM HF2 HS2 HL2 HL hz3 hy hz
          rename_i hHeld
          clear hHeld
          generalize w4.drewN nn = w5 at HN5 ⊢
          go_wp2_with fail
          refine (hasMC bc mac s5 _ HN5.out.c).mono ?_
          rintro e w6 ⟨rfl, hb6⟩
          have hN6 := HN5.out.below hb6
          have Z6 : Hid (Blk (w6.alloc (.cells #[.int .i64 0, .int .u32 0, .int .u32 0, .int .u8 0, .int .u8 0, .int .u8 0, .int .u8 0, .int .u8 0, .int .u8 0, .int .i64 0, .int .u32 0, .int .u32 0, .int .i64 0, .int .u32 0, .int .u32 0, .int .u32 0] 27)) w6.heap.size 27 zeroL.cs.toArray) := Blk.new _ _ _
          have HL6 : Hid (bc < w6.heap.size ∧ br < w6.heap.size ∧ w.heap.size < w6.heap.size) := ⟨hN6.c.lt, hN6.f.lt, hN6.m.lt⟩
          have HN6 := Lib.hid (hN6.below (al (rf w6) (.cells #[.int .i64 0, .int .u32 0, .int .u32 0, .int .u8 0, .int .u8 0, .int .u8 0, .int .u8 0, .int .u8 0, .int .u8 0, .int .i64 0, .int .u32 0, .int .u32 0, .int .i64 0, .int .u32 0, .int .u32 0, .int .u32 0] 27)))
          have HZ6 := Lib.hid hN6.b.size
          have HFL : Hid (0 + (leaseV s5).cs.length ≤ zeroL.cs.length) := by show 0 + List.length _ ≤ _; rw [Ls.len, Ls.len]; decide
          have HSL : Hid ((Try.prog.info? 27).map (·.size) = some (leaseV s5).cs.length) := by show Option.map _ _ = _; rw [Ls.len]; kernel_rfl
          have HLL : Hid (zeroL.cs.length = (leaseV s5).cs.length) := by show List.length _ = _; rw [Ls.len, Ls.len]
          clear hN6 hb6 HN5
          go_wp2_with ((with_reducible refine wpList_store_blk rfl 27 12 106 rfl w6.heap.size 0 (leaseV s5).cs ?_ ?_ 27 _ Z6.out HFL.out HSL.out (Ls.one _) ?_); (kernel_rfl); (kernel_rfl); intro w7 hB7 g7; rw [splice_full _ _ HLL.out] at hB7; have HA7 := Lib.hid hB7; have HN7 := Lib.hid (HN6.out.below2 g7 HZ6.out HL6.out); clear hB7 g7 HN6 Z6)
          refine (hasF br mac r5 _ HN7.out.f).mono ?_
          rintro e w8 ⟨rfl, hb8⟩
          rw [(rel_lease HN7.out.rel).1, (rel_lease HN7.out.rel).2.1]
          have hN8 := HN7.out.below hb8
          have HA8 := Lib.hid ((HA7.out.nx hb8).alloc (.cells #[.int .i64 0, .int .u32 0, .int .u32 0, .int .u8 0, .int .u8 0, .int .u8 0, .int .u8 0, .int .u8 0, .int .u8 0, .int .i64 0, .int .u32 0, .int .u32 0, .int .i64 0, .int .u32 0, .int .u32 0, .int .u32 0] 27))
          have HLT := Lib.hid (HA7.out.nx hb8).lt
          have Z8 : Hid (Blk (w8.alloc (.cells #[.int .i64 0, .int .u32 0, .int .u32 0, .int .u8 0, .int .u8 0, .int .u8 0, .int .u8 0, .int .u8 0, .int .u8 0, .int .i64 0, .int .u32 0, .int .u32 0, .int .i64 0, .int .u32 0, .int .u32 0, .int .u32 0] 27)) w8.heap.size 27 zeroL.cs.toArray) := Blk.new _ _ _
          have HL8 : Hid (bc < w8.heap.size ∧ br < w8.heap.size ∧ w.heap.size < w8.heap.size) := ⟨hN8.c.lt, hN8.f.lt, hN8.m.lt⟩
          have HN8 := Lib.hid (hN8.below (al (rf w8) (.cells #[.int .i64 0, .int .u32 0, .int .u32 0, .int .u8 0, .int .u8 0, .int .u8 0, .int .u8 0, .int .u8 0, .int .u8 0, .int .i64 0, .int .u32 0, .int .u32 0, .int .i64 0, .int .u32 0, .int .u32 0, .int .u32 0] 27)))
          have HZ8 := Lib.hid hN8.b.size
          clear hN8 hb8 HN7 HA7
          go_wp2_with ((with_reducible refine wpList_store_blk rfl 27 14 111 rfl w8.heap.size 0 (leaseV s5).cs ?_ ?_ 27 _ Z8.out HFL.out HSL.out (Ls.one _) ?_); (kernel_rfl); (kernel_rfl); intro w9 hB9 g9; rw [splice_full _ _ HLL.out] at hB9; have HA9 := Lib.hid (HA8.out.only g9 (Nat.ne_of_lt HLT.out)); have HB9 := Lib.hid hB9; have HN9 := Lib.hid (HN8.out.below2 g9 HZ8.out HL8.out); clear hB9 g9 HN8 Z8 HA8)
          have hq := neq_self (leaseV s5)
          have la : Hid (∀ w', (∃ n, w' = w9.drewN n) → ∀ j v, (leaseV s5).cs[j]? = some v → w'.cell? ((⟨w6.heap.size, 0, none⟩ : Addr).add j) = some v) := by
            rintro _ ⟨n, rfl⟩ j v hv
            rw [Addr.add_mid, Nat.zero_add]; exact ((HA9.out.drewN n).cell j).trans (by rw [List.getElem?_toArray]; exact hv)
          have lb : Hid (∀ w', (∃ n, w' = w9.drewN n) → ∀ j v, (leaseV s5).cs[j]? = some v → w'.cell? ((⟨w8.heap.size, 0, none⟩ : Addr).add j) = some v) := by
            rintro _ ⟨n, rfl⟩ j v hv
            rw [Addr.add_mid, Nat.zero_add]; exact ((HB9.out.drewN n).cell j).trans (by rw [List.getElem?_toArray]; exact hv)
          have c6 : w9.cell? ⟨br, 6, none⟩ = some (.int .i64 s5.st) := Rel.cell6 HN9.out.f HN9.out.rel
          have qq : ((s5.st : Int) != s5.st) = false := by simp
          clear HFL HLL HA9 HB9 HLT
          generalize (leaseV s5).cs = X at hq la lb HSL ⊢
          generalize decide (3 ≤ s5.st) = bb
          refine wp_region_quiet_lit (by kernel_rfl) (by kernel_rfl) ?_
          repeat (go_big_quiet_step (fail))
          refine wpQuiet_load_row (by kernel_rfl) 27 (.tmp 12) rfl ⟨w6.heap.size, 0, none⟩ rfl X _ la.out Try.underlying27 rfl HSL.out (fun K hK => ?_)
          go_simp
          refine hK _ ?_
          clear hK K
          repeat (go_big_quiet_step (fail))
          refine wpQuiet_load_row (by kernel_rfl) 27 (.tmp 14) rfl ⟨w8.heap.size, 0, none⟩ rfl X _ lb.out Try.underlying27 rfl HSL.out (fun K hK => ?_)
          go_simp
          refine hK _ ?_
          clear hK K
          repeat (go_big_quiet_step ((go_at_call 13; exact Calls.quiet_of_same (stateC bc mac s5 _ (by exact HN9.out.c)))))
          refine wpQuiet_nil ?_
          intro _ hw'
          obtain ⟨nq, hw''⟩ := hw'
          subst hw''
          go_wp2
          go_roundw
          case rel => exact ⟨now + z, i + 1, s5, r5, by go_num, by go_num, by omega, HK.out, HN9.out.drewN _⟩
          case measure => simp [intOf]; omega
    by_cases hk3 : x.kind = 3
    · as_aux_lemma =>
        have q1 : ((x.kind : Int) == 1) = false := by rw [beq_eq_false_iff_ne]; exact hk1
        have q2 : ((x.kind : Int) == 2) = false := by rw [beq_eq_false_iff_ne]; exact hk2
        have q3 : ((x.kind : Int) == 3) = true := by rw [beq_iff_eq]; exact hk3
        clear hk1 hk2 hk3
        go_wp2_with (first
          | (with_reducible refine wpList_load_any rfl 48 (.tmp 35) rfl (ad.add (i * 20)) (by kernel_rfl) x.cs _ HCELL.out Try.underlying48 (by kernel_rfl) (by rw [Stp.len]; kernel_rfl) ?_)
          | ((with_reducible refine wpList_store_blk rfl 48 9 36 rfl wr.heap.size 0 x.cs ?_ ?_ 48 _ HZ.out HFIT.out HSZ.out (Stp.one _) ?_); (kernel_rfl); (kernel_rfl); intro w2 hB2 g2; rw [splice_full _ _ HLN.out] at hB2; have HX := Lib.hid hB2; have y0 : w2.cell? ⟨wr.heap.size, 0, none⟩ = some (.int .i64 x.kind) := HX.out.cell 0; have y1 : w2.cell? ⟨wr.heap.size, 1, none⟩ = some (.int .i64 x.by_) := HX.out.cell 1; have y2 : w2.cell? ⟨wr.heap.size, 2, none⟩ = some (.int .i64 x.draw) := HX.out.cell 2; have y3 : w2.cell? ⟨wr.heap.size, 19, none⟩ = some (.bool x.own) := HX.out.cell 19; have HN2 := Lib.hid (HN.out.below2 g2 hz3 HL.out); clear hB2 g2 HN HZ HCELL))
        go_region_held3 (fun w' => w'.cell? ⟨wr.heap.size, 2, none⟩ = some (.int .i64 x.draw)) (first | exact y2 | exact keep_x hg3 hzx.out.1.symm (by exact y2) | exact keep_x hg4 hzx.out.2.symm (by exact keep_x hg3 hzx.out.1.symm (by exact y2)) | exact (show w4.cell? _ = _ from keep_x hg4 hzx.out.2.symm (by exact keep_x hg3 hzx.out.1.symm (by exact y2))))
          (first
            | (go_at_call 15; refine (tickC bc mac s (now + z) x.draw _ (by exact HN2.out.c) HN2.out.ok k2 k3).mono ?_; rintro e w3 ⟨v3, rfl, ho3, hC3, hg3⟩)
            | (go_at_call 22; refine (tickF br mac r (now + z) x.draw _ (Blk.only (by exact HN2.out.f) hg3 HN2.out.ne.1.symm) (HN2.out.rel.ok HN2.out.ok) k2 k3).mono ?_; rintro e w4 ⟨v4, rfl, ho4, hC4, hg4⟩)
            | (go_at_call 19; refine (rowsC _ _ _ _ _ _ (Out.only (by exact ho3) hg4 (by exact HN2.out.f.lt)) (by exact (((tick_rel mac s r HN2.out.rel HN2.out.ok _ _).2) ▸ ho4))).mono ?_; rintro e w5 ⟨rfl, nn, rfl⟩))
        have hN5 : ∃ s' r', Now w w.heap.size bc br mac (some ad) n l s' r' (w4.drewN nn) := ⟨_, _, (Now.step HN2.out.drew hg3 hC3 hg4 hC4 (tick_ok _ _ HN2.out.ok _ _) (tick_rel mac s r HN2.out.rel HN2.out.ok _ _).1).drewN nn⟩
        obtain ⟨s5, r5, hN5⟩ := hN5
        have HN5 := Lib.hid hN5
        clear hN5 HN2 ho3 ho4 hC3 hC4 hg3 hg4 HX y0 y1 y2 y3 HL hz3 hy hz
        rename_i hHeld
        clear hHeld
        generalize w4.drewN nn = w5 at HN5 ⊢
        go_wp2_with fail
        refine (hasMC bc mac s5 _ HN5.out.c).mono ?_
        rintro e w6 ⟨rfl, hb6⟩
        have hN6 := HN5.out.below hb6
        have Z6 : Hid (Blk (w6.alloc (.cells #[.int .i64 0, .int .u32 0, .int .u32 0, .int .u8 0, .int .u8 0, .int .u8 0, .int .u8 0, .int .u8 0, .int .u8 0, .int .i64 0, .int .u32 0, .int .u32 0, .int .i64 0, .int .u32 0, .int .u32 0, .int .u32 0] 27)) w6.heap.size 27 zeroL.cs.toArray) := Blk.new _ _ _
        have HL6 : Hid (bc < w6.heap.size ∧ br < w6.heap.size ∧ w.heap.size < w6.heap.size) := ⟨hN6.c.lt, hN6.f.lt, hN6.m.lt⟩
        have HN6 := Lib.hid (hN6.below (al (rf w6) (.cells #[.int .i64 0, .int .u32 0, .int .u32 0, .int .u8 0, .int .u8 0, .int .u8 0, .int .u8 0, .int .u8 0, .int .u8 0, .int .i64 0, .int .u32 0, .int .u32 0, .int .i64 0, .int .u32 0, .int .u32 0, .int .u32 0] 27)))
        have HZ6 := Lib.hid hN6.b.size
        have HFL : Hid (0 + (leaseV s5).cs.length ≤ zeroL.cs.length) := by show 0 + List.length _ ≤ _; rw [Ls.len, Ls.len]; decide
        have HSL : Hid ((Try.prog.info? 27).map (·.size) = some (leaseV s5).cs.length) := by show Option.map _ _ = _; rw [Ls.len]; kernel_rfl
        have HLL : Hid (zeroL.cs.length = (leaseV s5).cs.length) := by show List.length _ = _; rw [Ls.len, Ls.len]
        clear hN6 hb6 HN5
        go_wp2_with ((with_reducible refine wpList_store_blk rfl 27 12 106 rfl w6.heap.size 0 (leaseV s5).cs ?_ ?_ 27 _ Z6.out HFL.out HSL.out (Ls.one _) ?_); (kernel_rfl); (kernel_rfl); intro w7 hB7 g7; rw [splice_full _ _ HLL.out] at hB7; have HA7 := Lib.hid hB7; have HN7 := Lib.hid (HN6.out.below2 g7 HZ6.out HL6.out); clear hB7 g7 HN6 Z6)
        refine (hasF br mac r5 _ HN7.out.f).mono ?_
        rintro e w8 ⟨rfl, hb8⟩
        rw [(rel_lease HN7.out.rel).1, (rel_lease HN7.out.rel).2.1]
        have hN8 := HN7.out.below hb8
        have HA8 := Lib.hid ((HA7.out.nx hb8).alloc (.cells #[.int .i64 0, .int .u32 0, .int .u32 0, .int .u8 0, .int .u8 0, .int .u8 0, .int .u8 0, .int .u8 0, .int .u8 0, .int .i64 0, .int .u32 0, .int .u32 0, .int .i64 0, .int .u32 0, .int .u32 0, .int .u32 0] 27))
        have HLT := Lib.hid (HA7.out.nx hb8).lt
        have Z8 : Hid (Blk (w8.alloc (.cells #[.int .i64 0, .int .u32 0, .int .u32 0, .int .u8 0, .int .u8 0, .int .u8 0, .int .u8 0, .int .u8 0, .int .u8 0, .int .i64 0, .int .u32 0, .int .u32 0, .int .i64 0, .int .u32 0, .int .u32 0, .int .u32 0] 27)) w8.heap.size 27 zeroL.cs.toArray) := Blk.new _ _ _
        have HL8 : Hid (bc < w8.heap.size ∧ br < w8.heap.size ∧ w.heap.size < w8.heap.size) := ⟨hN8.c.lt, hN8.f.lt, hN8.m.lt⟩
        have HN8 := Lib.hid (hN8.below (al (rf w8) (.cells #[.int .i64 0, .int .u32 0, .int .u32 0, .int .u8 0, .int .u8 0, .int .u8 0, .int .u8 0, .int .u8 0, .int .u8 0, .int .i64 0, .int .u32 0, .int .u32 0, .int .i64 0, .int .u32 0, .int .u32 0, .int .u32 0] 27)))
        have HZ8 := Lib.hid hN8.b.size
        clear hN8 hb8 HN7 HA7
        go_wp2_with ((with_reducible refine wpList_store_blk rfl 27 14 111 rfl w8.heap.size 0 (leaseV s5).cs ?_ ?_ 27 _ Z8.out HFL.out HSL.out (Ls.one _) ?_); (kernel_rfl); (kernel_rfl); intro w9 hB9 g9; rw [splice_full _ _ HLL.out] at hB9; have HA9 := Lib.hid (HA8.out.only g9 (Nat.ne_of_lt HLT.out)); have HB9 := Lib.hid hB9; have HN9 := Lib.hid (HN8.out.below2 g9 HZ8.out HL8.out); clear hB9 g9 HN8 Z8 HA8)
        have hq := neq_self (leaseV s5)
        have la : Hid (∀ w', (∃ n, w' = w9.drewN n) → ∀ j v, (leaseV s5).cs[j]? = some v → w'.cell? ((⟨w6.heap.size, 0, none⟩ : Addr).add j) = some v) := by
          rintro _ ⟨n, rfl⟩ j v hv
          rw [Addr.add_mid, Nat.zero_add]; exact ((HA9.out.drewN n).cell j).trans (by rw [List.getElem?_toArray]; exact hv)
        have lb : Hid (∀ w', (∃ n, w' = w9.drewN n) → ∀ j v, (leaseV s5).cs[j]? = some v → w'.cell? ((⟨w8.heap.size, 0, none⟩ : Addr).add j) = some v) := by
          rintro _ ⟨n, rfl⟩ j v hv
          rw [Addr.add_mid, Nat.zero_add]; exact ((HB9.out.drewN n).cell j).trans (by rw [List.getElem?_toArray]; exact hv)
        have c6 : w9.cell? ⟨br, 6, none⟩ = some (.int .i64 s5.st) := Rel.cell6 HN9.out.f HN9.out.rel
        have qq : ((s5.st : Int) != s5.st) = false := by simp
        clear HFL HLL HA9 HB9 HLT
        generalize (leaseV s5).cs = X at hq la lb HSL ⊢
        generalize decide (3 ≤ s5.st) = bb
        refine wp_region_quiet_lit (by kernel_rfl) (by kernel_rfl) ?_
        repeat (go_big_quiet_step (fail))
        refine wpQuiet_load_row (by kernel_rfl) 27 (.tmp 12) rfl ⟨w6.heap.size, 0, none⟩ rfl X _ la.out Try.underlying27 rfl HSL.out (fun K hK => ?_)
        go_simp
        refine hK _ ?_
        clear hK K
        repeat (go_big_quiet_step (fail))
        refine wpQuiet_load_row (by kernel_rfl) 27 (.tmp 14) rfl ⟨w8.heap.size, 0, none⟩ rfl X _ lb.out Try.underlying27 rfl HSL.out (fun K hK => ?_)
        go_simp
        refine hK _ ?_
        clear hK K
        repeat (go_big_quiet_step ((go_at_call 13; exact Calls.quiet_of_same (stateC bc mac s5 _ (by exact HN9.out.c)))))
        refine wpQuiet_nil ?_
        intro _ hw'
        obtain ⟨nq, hw''⟩ := hw'
        subst hw''
        go_wp2
        go_roundw
        case rel => exact ⟨now + z, i + 1, s5, r5, by go_num, by go_num, by omega, HK.out, HN9.out.drewN _⟩
        case measure => simp [intOf]; omega
    as_aux_lemma =>
      have q1 : ((x.kind : Int) == 1) = false := by rw [beq_eq_false_iff_ne]; exact hk1
      have q2 : ((x.kind : Int) == 2) = false := by rw [beq_eq_false_iff_ne]; exact hk2
      have q3 : ((x.kind : Int) == 3) = false := by rw [beq_eq_false_iff_ne]; exact hk3
      clear hk1 hk2 hk3
      go_wp2_with (first
        | (with_reducible refine wpList_load_any rfl 48 (.tmp 35) rfl (ad.add (i * 20)) (by kernel_rfl) x.cs _ HCELL.out Try.underlying48 (by kernel_rfl) (by rw [Stp.len]; kernel_rfl) ?_)
        | ((with_reducible refine wpList_store_blk rfl 48 9 36 rfl wr.heap.size 0 x.cs ?_ ?_ 48 _ HZ.out HFIT.out HSZ.out (Stp.one _) ?_); (kernel_rfl); (kernel_rfl); intro w2 hB2 g2; rw [splice_full _ _ HLN.out] at hB2; have HX := Lib.hid hB2; have y0 : w2.cell? ⟨wr.heap.size, 0, none⟩ = some (.int .i64 x.kind) := HX.out.cell 0; have y1 : w2.cell? ⟨wr.heap.size, 1, none⟩ = some (.int .i64 x.by_) := HX.out.cell 1; have y2 : w2.cell? ⟨wr.heap.size, 2, none⟩ = some (.int .i64 x.draw) := HX.out.cell 2; have y3 : w2.cell? ⟨wr.heap.size, 19, none⟩ = some (.bool x.own) := HX.out.cell 19; have HN2 := Lib.hid (HN.out.below2 g2 hz3 HL.out); clear hB2 g2 HN HZ HCELL))
      refine (releaseC bc mac s _ HN2.out.c).mono ?_
      rintro e w3 ⟨v3, rfl, ho3, hC3, hg3⟩
      go_wp2_with fail
      refine (releaseF br mac r _ (Blk.only HN2.out.f hg3 HN2.out.ne.1.symm)).mono ?_
      rintro e w4 ⟨v4, rfl, ho4, hC4, hg4⟩
      go_wp2_with fail
      refine (rowsC _ _ _ _ _ _ (Out.only ho3 hg4 HN2.out.f.lt) ((release_rel mac s r HN2.out.rel).2 ▸ ho4)).mono ?_
      rintro e w5 ⟨rfl, nn, rfl⟩
      have hN5 : ∃ s' r', Now w w.heap.size bc br mac (some ad) n l s' r' (w4.drewN nn) := ⟨_, _, (Now.step HN2.out hg3 hC3 hg4 hC4 (release_ok _ HN2.out.ok) (release_rel mac s r HN2.out.rel).1).drewN nn⟩
      obtain ⟨s5, r5, hN5⟩ := hN5
      have HN5 := Lib.hid hN5
      clear hN5 HN2 ho3 ho4 hC3 hC4 hg3 hg4 HX y0 y1 y2 y3 HL hz3 hy hz
      generalize w4.drewN nn = w5 at HN5 ⊢
      go_wp2_with fail
      refine (hasMC bc mac s5 _ HN5.out.c).mono ?_
      rintro e w6 ⟨rfl, hb6⟩
      have hN6 := HN5.out.below hb6
      have Z6 : Hid (Blk (w6.alloc (.cells #[.int .i64 0, .int .u32 0, .int .u32 0, .int .u8 0, .int .u8 0, .int .u8 0, .int .u8 0, .int .u8 0, .int .u8 0, .int .i64 0, .int .u32 0, .int .u32 0, .int .i64 0, .int .u32 0, .int .u32 0, .int .u32 0] 27)) w6.heap.size 27 zeroL.cs.toArray) := Blk.new _ _ _
      have HL6 : Hid (bc < w6.heap.size ∧ br < w6.heap.size ∧ w.heap.size < w6.heap.size) := ⟨hN6.c.lt, hN6.f.lt, hN6.m.lt⟩
      have HN6 := Lib.hid (hN6.below (al (rf w6) (.cells #[.int .i64 0, .int .u32 0, .int .u32 0, .int .u8 0, .int .u8 0, .int .u8 0, .int .u8 0, .int .u8 0, .int .u8 0, .int .i64 0, .int .u32 0, .int .u32 0, .int .i64 0, .int .u32 0, .int .u32 0, .int .u32 0] 27)))
      have HZ6 := Lib.hid hN6.b.size
      have HFL : Hid (0 + (leaseV s5).cs.length ≤ zeroL.cs.length) := by show 0 + List.length _ ≤ _; rw [Ls.len, Ls.len]; decide
      have HSL : Hid ((Try.prog.info? 27).map (·.size) = some (leaseV s5).cs.length) := by show Option.map _ _ = _; rw [Ls.len]; kernel_rfl
      have HLL : Hid (zeroL.cs.length = (leaseV s5).cs.length) := by show List.length _ = _; rw [Ls.len, Ls.len]
      clear hN6 hb6 HN5
      go_wp2_with ((with_reducible refine wpList_store_blk rfl 27 12 106 rfl w6.heap.size 0 (leaseV s5).cs ?_ ?_ 27 _ Z6.out HFL.out HSL.out (Ls.one _) ?_); (kernel_rfl); (kernel_rfl); intro w7 hB7 g7; rw [splice_full _ _ HLL.out] at hB7; have HA7 := Lib.hid hB7; have HN7 := Lib.hid (HN6.out.below2 g7 HZ6.out HL6.out); clear hB7 g7 HN6 Z6)
      refine (hasF br mac r5 _ HN7.out.f).mono ?_
      rintro e w8 ⟨rfl, hb8⟩
      rw [(rel_lease HN7.out.rel).1, (rel_lease HN7.out.rel).2.1]
      have hN8 := HN7.out.below hb8
      have HA8 := Lib.hid ((HA7.out.nx hb8).alloc (.cells #[.int .i64 0, .int .u32 0, .int .u32 0, .int .u8 0, .int .u8 0, .int .u8 0, .int .u8 0, .int .u8 0, .int .u8 0, .int .i64 0, .int .u32 0, .int .u32 0, .int .i64 0, .int .u32 0, .int .u32 0, .int .u32 0] 27))
      have HLT := Lib.hid (HA7.out.nx hb8).lt
      have Z8 : Hid (Blk (w8.alloc (.cells #[.int .i64 0, .int .u32 0, .int .u32 0, .int .u8 0, .int .u8 0, .int .u8 0, .int .u8 0, .int .u8 0, .int .u8 0, .int .i64 0, .int .u32 0, .int .u32 0, .int .i64 0, .int .u32 0, .int .u32 0, .int .u32 0] 27)) w8.heap.size 27 zeroL.cs.toArray) := Blk.new _ _ _
      have HL8 : Hid (bc < w8.heap.size ∧ br < w8.heap.size ∧ w.heap.size < w8.heap.size) := ⟨hN8.c.lt, hN8.f.lt, hN8.m.lt⟩
      have HN8 := Lib.hid (hN8.below (al (rf w8) (.cells #[.int .i64 0, .int .u32 0, .int .u32 0, .int .u8 0, .int .u8 0, .int .u8 0, .int .u8 0, .int .u8 0, .int .u8 0, .int .i64 0, .int .u32 0, .int .u32 0, .int .i64 0, .int .u32 0, .int .u32 0, .int .u32 0] 27)))
      have HZ8 := Lib.hid hN8.b.size
      clear hN8 hb8 HN7 HA7
      go_wp2_with ((with_reducible refine wpList_store_blk rfl 27 14 111 rfl w8.heap.size 0 (leaseV s5).cs ?_ ?_ 27 _ Z8.out HFL.out HSL.out (Ls.one _) ?_); (kernel_rfl); (kernel_rfl); intro w9 hB9 g9; rw [splice_full _ _ HLL.out] at hB9; have HA9 := Lib.hid (HA8.out.only g9 (Nat.ne_of_lt HLT.out)); have HB9 := Lib.hid hB9; have HN9 := Lib.hid (HN8.out.below2 g9 HZ8.out HL8.out); clear hB9 g9 HN8 Z8 HA8)
      have hq := neq_self (leaseV s5)
      have la : Hid (∀ w', (∃ n, w' = w9.drewN n) → ∀ j v, (leaseV s5).cs[j]? = some v → w'.cell? ((⟨w6.heap.size, 0, none⟩ : Addr).add j) = some v) := by
        rintro _ ⟨n, rfl⟩ j v hv
        rw [Addr.add_mid, Nat.zero_add]; exact ((HA9.out.drewN n).cell j).trans (by rw [List.getElem?_toArray]; exact hv)
      have lb : Hid (∀ w', (∃ n, w' = w9.drewN n) → ∀ j v, (leaseV s5).cs[j]? = some v → w'.cell? ((⟨w8.heap.size, 0, none⟩ : Addr).add j) = some v) := by
        rintro _ ⟨n, rfl⟩ j v hv
        rw [Addr.add_mid, Nat.zero_add]; exact ((HB9.out.drewN n).cell j).trans (by rw [List.getElem?_toArray]; exact hv)
      have c6 : w9.cell? ⟨br, 6, none⟩ = some (.int .i64 s5.st) := Rel.cell6 HN9.out.f HN9.out.rel
      have qq : ((s5.st : Int) != s5.st) = false := by simp
      clear HFL HLL HA9 HB9 HLT
      generalize (leaseV s5).cs = X at hq la lb HSL ⊢
      generalize decide (3 ≤ s5.st) = bb
      refine wp_region_quiet_lit (by kernel_rfl) (by kernel_rfl) ?_
      repeat (go_big_quiet_step (fail))
      refine wpQuiet_load_row (by kernel_rfl) 27 (.tmp 12) rfl ⟨w6.heap.size, 0, none⟩ rfl X _ la.out Try.underlying27 rfl HSL.out (fun K hK => ?_)
      go_simp
      refine hK _ ?_
      clear hK K
      repeat (go_big_quiet_step (fail))
      refine wpQuiet_load_row (by kernel_rfl) 27 (.tmp 14) rfl ⟨w8.heap.size, 0, none⟩ rfl X _ lb.out Try.underlying27 rfl HSL.out (fun K hK => ?_)
      go_simp
      refine hK _ ?_
      clear hK K
      repeat (go_big_quiet_step ((go_at_call 13; exact Calls.quiet_of_same (stateC bc mac s5 _ (by exact HN9.out.c)))))
      refine wpQuiet_nil ?_
      intro _ hw'
      obtain ⟨nq, hw''⟩ := hw'
      subst hw''
      go_wp2
      go_roundw
      case rel => exact ⟨now + z, i + 1, s5, r5, by go_num, by go_num, by omega, HK.out, HN9.out.drewN _⟩
      case measure => simp [intOf]; omega

set_option maxRecDepth 100000 in
theorem leasePlays_lifted (os : Os) (started : os.Started) (H : Type) (enc : TypeId × Value → H) :
    ReturnsInHanded {} Try.checked os 7 .any (Rows.leasePlaysSpec.pre6 enc Try.prog Try.f7 Rows.leasePlaysRow.domain false) (Rows.leasePlaysSpec.post enc Try.prog Try.f7 false true false false) :=
  law_lift started (by kernel_rfl) Try.func7
    (ChangeSpec.witness6 (enc := enc) (C := Try.checked) false ⟨#[], #[.agg #[.int .u8 0, .int .u8 0, .int .u8 0, .int .u8 0, .int .u8 0, .int .u8 0], .slice none 0 0], []⟩ 8 (by kernel_rfl) (by kernel_rfl) (by kernel_rfl) (by kernel_rfl))
    rfl rfl Try.underlying4 (by kernel_rfl) (fun ds h => match ds, h with | [_, _], _ => rfl)
    (fun W base args ds p hval hA hsz => by
      rw [Try.params7] at hA hval
      obtain ⟨v0, v1, d0, d1, p0, p1, rfl, rfl, rfl, h0, h1⟩ := trodAll_two hA
      obtain ⟨m, rfl⟩ := open_mac6 (hval 0 25 v0 rfl rfl) h0
      obtain ⟨A, n, c, l, rfl, h2, h3, h4⟩ := open_steps (hval 1 43 v1 rfl rfl) h1
      exact leasePlays_walk m A n c l W (Nat.le_trans h2 h3) h4)

theorem leasePlays_holds : Rows.LeasePlaysSaid :=
  OpenClaim.holds_of_wide 7 Try.f7 rfl rfl rfl rfl rfl rfl rfl ⟨rfl, rfl, rfl, rfl, rfl⟩ rfl rfl rfl rfl rfl (by kernel_rfl) Try.func7 (by kernel_rfl)
    (of_decide_eq_true (by kernel_rfl)) (by unfold Func.isWrapper; rw [if_neg (of_decide_eq_false (by kernel_rfl))]; exact ⟨rfl, rfl⟩)
    (fun os started H enc _ => leasePlays_lifted os started H enc)
end Go.Proofs.Ytgdlghieifadhaa
