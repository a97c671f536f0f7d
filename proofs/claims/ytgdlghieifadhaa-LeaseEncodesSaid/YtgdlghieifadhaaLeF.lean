/-
  Lease: what a right message is written as is read as it. Printed by gen_lef.py.
-/
import Derived.Test.YtgdlghieifadhaaLeE
import Derived.WalkMore
set_option linter.unusedVariables false
namespace Go.Proofs.Ytgdlghieifadhaa
open Go.RowKit

theorem mac_cells {m : Ls} (ok : LsOk m) : Lib.byteCells (macB m.cl) = [.int .u8 m.cl.a, .int .u8 m.cl.b, .int .u8 m.cl.c, .int .u8 m.cl.d, .int .u8 m.cl.e, .int .u8 m.cl.f] := by
  have e : ∀ x ∈ m.cl.l, ((UInt8.ofNat x.toNat).toNat : Int) = x := fun x hx => by
    have := ok.c x hx
    simp [UInt8.toNat_ofNat']; omega
  simp only [macB, M6.l, Lib.byteCells, List.map_cons, List.map_nil, e m.cl.a (by simp [M6.l]), e m.cl.b (by simp [M6.l]), e m.cl.c (by simp [M6.l]), e m.cl.d (by simp [M6.l]), e m.cl.e (by simp [M6.l]), e m.cl.f (by simp [M6.l])]
theorem ls_len (m : Ls) : m.cs.length = 16 := rfl
theorem own_bytes {w : World} {base m : Nat} {A : Option Addr} {c : Nat} {l : List UInt8} (h : w.ownsRow base 5 1 (.slice A m c) m (Lib.byteCells l)) : Bytes w A l ∧ m = l.length := by
  have h1 := h.1
  rw [byteCells_len, Nat.mul_one] at h1
  subst h1
  exact ⟨Bytes.own h, rfl⟩
set_option maxRecDepth 100000 in
set_option maxHeartbeats 3200000 in
theorem le_dec (w : World) (m : Ls) (A : Option Addr) (c : Nat) (ok : LsOk m) (gd : LsGood m) (hb : Bytes w A (leB m)) : Calls Try.prog 28 #[.slice A (leB m).length c] w fun e w' => e = .returned (.tuple #[m.val, .int .i64 0]) ∧ Below w.heap.size w w' := by
  have hlen := leB_len m
  have hform := leB_form m
  have OK := Lib.hid ok
  have GD := Lib.hid gd
  have op0 : 0 ≤ m.op := by rcases gd.op with h | h <;> omega
  have op1 : m.op ≤ 2 := by rcases gd.op with h | h <;> omega
  have id0 := ok.id0
  have id1 := ok.id1
  have y0 := ok.y0
  have y1 := ok.y1
  have B0 : Hid (Below w.heap.size w (w.alloc (.cells #[.int .i64 0, .int .u32 0, .int .u32 0, .int .u8 0, .int .u8 0, .int .u8 0, .int .u8 0, .int .u8 0, .int .u8 0, .int .i64 0, .int .u32 0, .int .u32 0, .int .i64 0, .int .u32 0, .int .u32 0, .int .u32 0] 27))) := al (rf w) _
  have Z0 : Hid (Blk (w.alloc (.cells #[.int .i64 0, .int .u32 0, .int .u32 0, .int .u8 0, .int .u8 0, .int .u8 0, .int .u8 0, .int .u8 0, .int .u8 0, .int .i64 0, .int .u32 0, .int .u32 0, .int .i64 0, .int .u32 0, .int .u32 0, .int .u32 0] 27)) w.heap.size 27 zeroL.cs.toArray) := Blk.new w _ _
  have HA := Lib.hid (hb.nx B0.out)
  have hs0 : (w.alloc (.cells #[.int .i64 0, .int .u32 0, .int .u32 0, .int .u8 0, .int .u8 0, .int .u8 0, .int .u8 0, .int .u8 0, .int .u8 0, .int .i64 0, .int .u32 0, .int .u32 0, .int .i64 0, .int .u32 0, .int .u32 0, .int .u32 0] 27)).heap.size = w.heap.size + 1 := by simp
  generalize leB m = L at hlen hform HA
  obtain ⟨len0, len1⟩ := hlen
  obtain ⟨R12, h12⟩ : ∃ R, (ents m).flatMap entB ++ beB 255 1 = R := ⟨_, rfl⟩
  obtain ⟨R11, h11⟩ : ∃ R, beB 1669485411 4 ++ R12 = R := ⟨_, rfl⟩
  obtain ⟨R10, h10⟩ : ∃ R, zs 202 ++ R11 = R := ⟨_, rfl⟩
  obtain ⟨R9, h9⟩ : ∃ R, macB m.cl ++ R10 = R := ⟨_, rfl⟩
  obtain ⟨R8, h8⟩ : ∃ R, zs 8 ++ R9 = R := ⟨_, rfl⟩
  obtain ⟨R7, h7⟩ : ∃ R, beB m.yours.toNat 4 ++ R8 = R := ⟨_, rfl⟩
  obtain ⟨R6, h6⟩ : ∃ R, zs 8 ++ R7 = R := ⟨_, rfl⟩
  obtain ⟨R5, h5⟩ : ∃ R, beB m.id.toNat 4 ++ R6 = R := ⟨_, rfl⟩
  obtain ⟨R4, h4⟩ : ∃ R, beB 0 1 ++ R5 = R := ⟨_, rfl⟩
  obtain ⟨R3, h3⟩ : ∃ R, beB 6 1 ++ R4 = R := ⟨_, rfl⟩
  obtain ⟨R2, h2⟩ : ∃ R, beB 1 1 ++ R3 = R := ⟨_, rfl⟩
  rw [h12, h11, h10, h9, h8, h7, h6, h5, h4, h3, h2] at hform
  have HF := Lib.hid hform
  have H2 := Lib.hid h2
  have H3 := Lib.hid h3
  have H4 := Lib.hid h4
  have H5 := Lib.hid h5
  have H6 := Lib.hid h6
  have H7 := Lib.hid h7
  have H8 := Lib.hid h8
  have H9 := Lib.hid h9
  have H10 := Lib.hid h10
  have H11 := Lib.hid h11
  have H12 := Lib.hid h12
  have i240 : ¬ (L.length : Int) < 240 := by omega
  clear hform h2 h3 h4 h5 h6 h7 h8 h9 h10 h11 h12 ok gd hb
  go_enter Try.func28, Try.ntmps28
  go_wp2
  go_step3
  go_wp2_with fail
  refine (newReader _ A L L.length c HA.out rfl (by omega)).mono ?_
  rintro e w1 ⟨b, rfl, hbb, r1, bel1⟩
  have hb1 : w.heap.size < b := by rw [hs0] at hbb; omega
  have R1 : Hid (IsR w1 b (beB m.op.toNat 1 ++ R2) 0) := by show IsR _ _ _ _; rw [← HF.out]; exact r1
  have Z1 := Lib.hid (Z0.out.nx bel1)
  have B1 := Lib.hid (nx B0.out bel1)
  have z1 : w.heap.size < w1.heap.size := by have := bel1.size; rw [hs0] at this; omega
  clear r1 bel1 hbb HA Z0 B0 hs0
  go_wp2_with fail
  refine (le_rb1 _ b m.op R2 R1.out op0 (by omega)).mono ?_
  rintro e w2 ⟨rfl, r2, g2⟩
  have hz2 := g2.size
  have Z2 := Lib.hid (Z1.out.only g2 (by omega))
  have B2 := Lib.hid (B1.out.trans (below_only g2 (show w.heap.size ≤ b by omega) (by omega)))
  have R2' := Lib.hid r2
  have hbl := r2.lt
  have N2 : Hid (Blk (w2.alloc (.cells #[.int .i64 0, .int .u32 0, .int .u32 0, .int .u8 0, .int .u8 0, .int .u8 0, .int .u8 0, .int .u8 0, .int .u8 0, .int .i64 0, .int .u32 0, .int .u32 0, .int .i64 0, .int .u32 0, .int .u32 0, .int .u32 0] 27)) w2.heap.size 27 zeroL.cs.toArray) := Blk.new w2 _ _
  clear r2 g2 R1 Z1 B1
  have D2 : Hid (Dl w (w2.alloc (.cells #[.int .i64 0, .int .u32 0, .int .u32 0, .int .u8 0, .int .u8 0, .int .u8 0, .int .u8 0, .int .u8 0, .int .u8 0, .int .i64 0, .int .u32 0, .int .u32 0, .int .i64 0, .int .u32 0, .int .u32 0, .int .u32 0] 27)) b w2.heap.size zeroL R2) := ⟨R2'.out.nx (al (rf w2) _), Z2.out.nx (al (rf w2) _), N2.out, nx B2.out (al (rf w2) _), hb1, by omega, by omega⟩
  go_wp2_with (first
    | ((with_reducible refine wpList_store_blk rfl 27 5 17 rfl w2.heap.size 0 ({ zeroL with op := m.op } : Ls).cs (by kernel_rfl) (by kernel_rfl) 27 zeroL.cs N2.out (by rw [ls_len, ls_len]; decide) (by kernel_rfl) (Ls.one _) ?_); intro w3 hB3 g3)
    | fail)
  have D3 : Hid (Dl w w3 b w2.heap.size { zeroL with op := m.op } R2) := D2.out.op (by rw [show splice zeroL.cs 0 ({ zeroL with op := m.op } : Ls).cs = ({ zeroL with op := m.op } : Ls).cs by kernel_rfl] at hB3; exact hB3) g3
  clear hB3 g3 D2 N2 Z2 B2 R2' z1 hbl hz2
  generalize w2.heap.size = g at D3 ⊢
  rw [← H2.out] at D3
  go_wp2_with fail
  refine (le_rb1 _ b 1 R3 D3.out.r (by decide) (by decide)).mono ?_
  rintro e w4 ⟨rfl, r4, g4⟩
  have D4 := Lib.hid (D3.out.to_ r4 g4)
  clear r4 g4 D3
  rw [← H3.out] at D4
  go_wp2_with fail
  refine (le_rb1 _ b 6 R4 D4.out.r (by decide) (by decide)).mono ?_
  rintro e w5 ⟨rfl, r5, g5⟩
  have D5 := Lib.hid (D4.out.to_ r5 g5)
  clear r5 g5 D4
  rw [← H4.out] at D5
  go_wp2_with fail
  refine (le_rb1 _ b 0 R5 D5.out.r (by decide) (by decide)).mono ?_
  rintro e w6 ⟨rfl, r6, g6⟩
  have D6 := Lib.hid (D5.out.to_ r6 g6)
  clear r6 g6 D5
  rw [← H5.out] at D6
  go_wp2_with fail
  refine (le_rb4 _ b m.id R6 D6.out.r id0 id1).mono ?_
  rintro e w7 ⟨rfl, r7, g7⟩
  have D7 := Lib.hid (D6.out.to_ r7 g7)
  clear r7 g7 D6
  have hf7 := D7.out.d.frozen 1
  have hc7 := D7.out.d.cell 1
  simp only [Ls.cs, List.getElem?_toArray, List.getElem?_cons_zero, List.getElem?_cons_succ] at hc7
  have hl7 := D7.out.d.lt
  go_wp2_with fail
  have E7 : Hid (Dl w (w7.setCell ⟨g, 1, none⟩ (.int .u32 m.id)) b g { zeroL with op := m.op, id := m.id } _) := D7.out.set_ 1 (.int .u32 m.id) rfl
  generalize w7.setCell ⟨g, 1, none⟩ (.int .u32 m.id) = v7 at E7 ⊢
  clear hf7 hc7 hl7 D7
  rw [← H6.out] at E7
  refine (le_rbr _ b (zs 8) R7 8 E7.out.r rfl).mono ?_
  rintro e w8 ⟨A8, c8, rfl, o8, r8, g8⟩
  have D8 := Lib.hid (E7.out.to_ r8 g8)
  clear r8 g8 E7 o8
  rw [← H7.out] at D8
  go_wp2_with fail
  refine (le_rb4 _ b m.yours R8 D8.out.r y0 y1).mono ?_
  rintro e w9 ⟨rfl, r9, g9⟩
  have D9 := Lib.hid (D8.out.to_ r9 g9)
  clear r9 g9 D8
  have hf9 := D9.out.d.frozen 2
  have hc9 := D9.out.d.cell 2
  simp only [Ls.cs, List.getElem?_toArray, List.getElem?_cons_zero, List.getElem?_cons_succ] at hc9
  have hl9 := D9.out.d.lt
  go_wp2_with fail
  have E9 : Hid (Dl w (w9.setCell ⟨g, 2, none⟩ (.int .u32 m.yours)) b g { zeroL with op := m.op, id := m.id, yours := m.yours } _) := D9.out.set_ 2 (.int .u32 m.yours) rfl
  generalize w9.setCell ⟨g, 2, none⟩ (.int .u32 m.yours) = v9 at E9 ⊢
  clear hf9 hc9 hl9 D9
  rw [← H8.out] at E9
  refine (le_rbr _ b (zs 8) R9 8 E9.out.r rfl).mono ?_
  rintro e w10 ⟨A10, c10, rfl, o10, r10, g10⟩
  have D10 := Lib.hid (E9.out.to_ r10 g10)
  clear r10 g10 E9 o10
  rw [← H9.out] at D10
  go_wp2
  have D10d : Dl w w10.drew b g { zeroL with op := m.op, id := m.id, yours := m.yours } (macB m.cl ++ R10) := D10.out.nx (rf w10).drew
  go_region_held3 (fun w' => True) (exact trivial)
    (first
    | (go_at_call 55; refine (le_rbr _ b (macB m.cl) R10 6 D10d.r rfl).mono ?_; rintro e w11 ⟨A11, c11, rfl, o11, r11, g11⟩; have D11 := D10d.to_ r11 g11)
    | (refine step_cp rfl (.tmp 35) (.tmp 37) rfl g 3 6 6 rfl A11 (macB m.cl) _ c11 rfl rfl (Nat.zero_lt_succ 5) (Nat.le_refl 6) 27 _ D11.d (own_bytes o11).1 (by show 3 + 6 ≤ 16; decide) ?_; intro w12 hB12 g12)
    | fail)
  have D12 : Hid (Dl w w12 b g (headL m) R10) := D11.op (by rw [show splice ({ zeroL with op := m.op, id := m.id, yours := m.yours } : Ls).cs 3 (Lib.byteCells (macB m.cl)) = (headL m).cs by rw [mac_cells OK.out]; rfl] at hB12; exact hB12) g12
  clear hB12 g12 D10 D10d D11 o11 r11 g11
  rw [← H10.out] at D12
  go_wp2_with fail
  refine (le_rbr _ b (zs 202) R11 202 D12.out.r rfl).mono ?_
  rintro e w13 ⟨A13, c13, rfl, o13, r13, g13⟩
  have D13 := Lib.hid (D12.out.to_ r13 g13)
  clear r13 g13 D12 o13
  rw [← H11.out] at D13
  have hop : ((m.op != 1) = false) ∨ ((m.op != 1) = true ∧ (m.op != 2) = false) := by
    rcases GD.out.op with h | h
    · left; rw [h]; rfl
    · right; rw [h]; exact ⟨rfl, rfl⟩
  have hc13 : w13.cell? ⟨g, 0, none⟩ = some (.int .i64 m.op) := D13.out.d.cell 0
  rcases hop with e1 | ⟨e1, e2⟩
  all_goals
    go_wp2_with fail
    refine (le_rb4 _ b 1669485411 R12 D13.out.r (by decide) (by decide)).mono ?_
    rintro e w14 ⟨rfl, r14, g14⟩
    have D14 := Lib.hid (D13.out.to_ r14 g14)
    clear r14 g14 D13 hc13
    go_wp2_with fail
    refine (cookieC _).mono ?_
    rintro e w' ⟨rfl, ew⟩
    have ew := ew.symm
    subst ew
    go_wp2
    go_step3
    go_wp2
    have HD0 : Hid (Dl w w14 b g (((ents m).take 0).foldl setE (headL m)) (((ents m).drop 0).flatMap entB ++ beB 255 1)) := by
      show Dl _ _ _ _ _ _
      rw [List.take_zero, List.drop_zero, H12.out]
      exact D14.out
    have HE := Lib.hid (ents_ok OK.out GD.out)
    clear D14
    go_loopw [8] (fun _ ws => ∃ k : Nat, k ≤ (ents m).length ∧ Hid (Dl w ws b g (((ents m).take k).foldl setE (headL m)) (((ents m).drop k).flatMap entB ++ beB 255 1))) (fun _ ws => rdLen ws b)
    case atStart => exact ⟨0, Nat.zero_le _, HD0⟩
    case round =>
      clear HD0
      obtain ⟨k, hk, HD⟩ := hrel
      by_cases hlt : k < (ents m).length
      · obtain ⟨⟨x, v, n⟩, hx⟩ : ∃ e, (ents m)[k]? = some e := ⟨_, List.getElem?_eq_getElem hlt⟩
        have hok : OkE x v n := HE.out _ (List.mem_of_getElem? hx)
        obtain ⟨x0, x1, n1, n0⟩ := hok.k
        have HOK := Lib.hid hok
        obtain ⟨R, hR⟩ : ∃ R, ((ents m).drop (k + 1)).flatMap entB ++ beB 255 1 = R := ⟨_, rfl⟩
        have hd : ((ents m).drop k).flatMap entB ++ beB 255 1 = beB x.toNat 1 ++ (beB n 1 ++ (beB v.toNat n ++ R)) := by
          obtain ⟨hlt', hx'⟩ := List.getElem?_eq_some_iff.1 hx
          rw [← hR, List.drop_eq_getElem_cons hlt', List.flatMap_cons, hx']
          simp only [entB, List.append_assoc]
        have hM : ((ents m).take (k + 1)).foldl setE (headL m) = setO (((ents m).take k).foldl setE (headL m)) x v := by
          rw [List.take_add_one, hx, Option.toList_some, List.foldl_append]
          rfl
        rw [hd] at HD
        generalize ((ents m).take k).foldl setE (headL m) = M at HD hM
        have HLN : Hid (rdLen wr b = 1 + (1 + (n + R.length))) := by
          show _ = _
          rw [HD.out.r.len]
          simp only [List.length_append, beB_len]
        have HLE := Lib.hid (rleft wr b _ 0 HD.out.r)
        rw [show (beB x.toNat 1 ++ (beB n 1 ++ (beB v.toNat n ++ R))).length = 1 + (1 + (n + R.length)) by simp only [List.length_append, beB_len]] at HLE
        obtain ⟨q, hq⟩ : ∃ q : Nat, 1 + (1 + (n + R.length)) = q := ⟨_, rfl⟩
        have q0 : (0 : Int) < q := by omega
        rw [hq] at HLE
        have HR := Lib.hid hR
        have HM := Lib.hid hM
        have HX := Lib.hid hlt
        have x2 : (x == 0) = false := by rw [beq_eq_false_iff_ne]; omega
        have x3 : (x == 255) = false := by rw [beq_eq_false_iff_ne]; omega
        clear hok hx hd hM hR hq hlt hk
        go_wp2_with fail
        refine HLE.out.mono ?_
        rintro e w' ⟨rfl, ew⟩
        have ew := ew.symm
        subst ew
        clear HLE
        go_wp2_with fail
        refine (le_rb1 _ b x _ HD.out.r (by omega) (by omega)).mono ?_
        rintro e w15 ⟨rfl, r15, g15⟩
        have D15 := Lib.hid (HD.out.to_ r15 g15)
        clear r15 g15 HD
        go_wp2_with fail
        refine (le_rb1 _ b n _ D15.out.r (by omega) (by omega)).mono ?_
        rintro e w16 ⟨rfl, r16, g16⟩
        have D16 := Lib.hid (D15.out.to_ r16 g16)
        clear r16 g16 D15
        have HRW := Lib.hid (le_rbr w16 b (beB v.toNat n) R n D16.out.r (by rw [beB_len]))
        rw [beB_len] at HRW
        go_wp2_with fail
        refine HRW.out.mono ?_
        rintro e w17 ⟨A17, c17, rfl, o17, r17, g17⟩
        have D17 := Lib.hid (D16.out.to_ r17 g17)
        have O17 := Lib.hid (own_bytes o17).1
        clear r17 g17 D16 o17 HRW
        go_wp2_with fail
        refine (optC _ g M x v n A17 c17 D17.out.d O17.out HOK.out).mono ?_
        rintro e w18 ⟨rfl, d18, g18⟩
        have D18 := Lib.hid (D17.out.op d18 g18)
        clear d18 g18 D17 O17
        go_wp2_with fail
        refine (rerr _ b _ 0 D18.out.r).mono ?_
        rintro e w' ⟨rfl, ew⟩
        have ew := ew.symm
        subst ew
        go_wp2
        go_roundw
        case rel => exact ⟨k + 1, HX.out, by show Dl _ _ _ _ _ _; rw [HM.out, HR.out]; exact D18.out⟩
        case measure => rw [HLN.out, D18.out.r.len]; omega
      · have hke : k = (ents m).length := by omega
        subst hke
        rw [List.take_length, List.drop_length, ents_fold, List.flatMap_nil, List.nil_append] at HD
        have HLE := Lib.hid (rleft wr b _ 0 HD.out.r)
        rw [beB_len] at HLE
        clear hlt hk
        go_wp2_with fail
        refine HLE.out.mono ?_
        rintro e w' ⟨rfl, ew⟩
        have ew := ew.symm
        subst ew
        clear HLE
        have HD' : Hid (Dl w wr b g m (beB (255 : Int).toNat 1 ++ [])) := HD
        go_wp2_with fail
        refine (le_rb1 _ b 255 [] HD'.out.r (by decide) (by decide)).mono ?_
        rintro e w15 ⟨rfl, r15, g15⟩
        have D15 := Lib.hid (HD'.out.to_ r15 g15)
        have hc15 : w15.cell? ⟨g, 9, none⟩ = some (.int .i64 m.ty) := D15.out.d.cell 9
        have t1 : ¬ m.ty < 1 := by have := GD.out.ty0; omega
        have t2 : ¬ 7 < m.ty := by have := GD.out.ty1; omega
        clear r15 g15 HD HD'
        go_wp2_with (first
          | (with_reducible refine wpList_load_blk rfl 27 5 rfl g 0 16 (by kernel_rfl) 27 _ m.cs D15.out.d (by kernel_rfl) _ Try.underlying27 (by kernel_rfl) (by kernel_rfl) ?_)
          | ((with_reducible refine wpList_store_blk rfl 27 2 95 rfl w.heap.size 0 m.cs (by kernel_rfl) (by kernel_rfl) 27 zeroL.cs D15.out.z (by rw [ls_len, ls_len]; decide) (by kernel_rfl) m.one ?_); intro w16 hB16 g16)
          | fail)
        have hB17 : Blk w16 w.heap.size 27 m.cs.toArray := by
          rw [show splice zeroL.cs 0 m.cs = m.cs by kernel_rfl] at hB16; exact hB16
        rw [Exit.noGoto_ret]
        refine bodyPost_ret (v := .tuple #[m.val, .int .i64 0]) ((run_results_cell_tmp rfl _ _ _ _ _ _ _ rfl hB17 Try.underlying27 rfl (by kernel_rfl)).trans rfl) rfl ⟨rfl, D15.out.bel.trans (below_only g16 (Nat.le_refl _) D15.out.bel.size)⟩
end Go.Proofs.Ytgdlghieifadhaa
