/-
  A frame is ours, if it goes to us, to all, or to one of our groups. No conditions.
-/
import Derived.Test.YtbfaonojemkhdaaTakes
set_option linter.unusedVariables false
namespace Go.Proofs.Ytbfaonojemkhdaa
open Go.ChangeShapes Go.WideShapes Go.ChangeAt Go.RowKit

theorem stA : SliceTy Try.prog 33 35 1 4 (.int .u32 0) := ⟨Try.underlying33, by kernel_rfl, rfl, by omega⟩
theorem one_u32 (xs : List Int) : ∀ u ∈ xs.map (Value.int .u32), u.oneCell' = true := by
  intro u hu
  obtain ⟨x, _, rfl⟩ := List.mem_map.1 hu
  rfl
set_option maxHeartbeats 1000000 in
theorem etherTakes_walk (me to : Mac) (A : Option Addr) (xs : List Int) (c : Nat) (a : Int) (w : World) (hA : Addrs w A xs) (ha : 0 ≤ a ∧ a ≤ 4294967295) :
    Calls Try.prog 5 #[me.v, .slice A xs.length c, to.v, .int .u32 a] w fun e w' => e = .returned (.bool true) ∧ Below w.heap.size w w' := by
  have hlen := hA.2.2
  unfold Mac.v
  by_cases hl : 2000 < (xs.length : Int)
  · go_enter Try.func5, Try.ntmps5
    go_wp2
    go_ret
    exact ⟨rfl, al (al (rf w) _) _⟩
  · have hl' : xs.length ≤ 2000 := by omega
    go_enter Try.func5, Try.ntmps5
    go_wp2_with (first
      | (at_builtin
         refine app_any stA rfl (.tmp 15) (.tmp 16) rfl (w.heap.size + 2) _ 0 [] rfl (own_lit _ #[] 0 ?b1 (by omega) (by decide) rfl) A xs.length c (xs.map (Value.int .u32)) rfl ((hA.nx (al (al (al (rf w) _) _) _)).1) (one_u32 xs) (by omega) (by omega) ?b2 ?_
         case b1 => simp
         case b2 => simp
         intro v1 w1 own1 gr1 at1 bel1)
      | (at_builtin
         refine app_any stA rfl (.tmp 17) (.tmp 18) rfl (w.heap.size + 2) v1 _ _ rfl (own1.alloc _) _ 1 _ [.int .u32 7] rfl (Reads.one (blk_at _ _ _ ?b4)) (by simp [Value.oneCell']) (by omega) (by omega) ?b3 ?_
         case b4 => simp
         case b3 => have := bel1.size; simp at this ⊢; omega
         intro v2 w2 own2 gr2 at2 bel2))
    obtain ⟨g, cap, rfl, hg, hg2, hcap, hcm, cur, BG, hcs, hct⟩ := own_form own2 (by omega)
    have B4 : Blk w2 w.heap.size 23 #[.int .u8 me.a.toNat, .int .u8 me.b.toNat, .int .u8 me.c.toNat, .int .u8 me.d.toNat, .int .u8 me.e.toNat, .int .u8 me.f.toNat] :=
      (((((Blk.new w _ _).alloc _).alloc _).below bel1 (by omega)).alloc _).below bel2 (by omega)
    have B6 : Blk w2 (w.heap.size + 1) 23 #[.int .u8 to.a.toNat, .int .u8 to.b.toNat, .int .u8 to.c.toNat, .int .u8 to.d.toNat, .int .u8 to.e.toNat, .int .u8 to.f.toNat] :=
      ((((blk_at _ _ _ (by simp)).alloc _).below bel1 (by omega)).alloc _).below bel2 (by omega)
    have hbl : Below w.heap.size w w2 := ((al (al (al (rf w) _) _) _).trans (bel1.mono (by omega))).trans (((Below.refl _ _).alloc (by have := bel1.size; simp at this; omega) _).trans (bel2.mono (by omega)))
    have hA2 := hA.nx hbl
    have hG : ∀ j, (hj : j < xs.length) → w2.cell? ⟨g, j, none⟩ = some (.int .u32 xs[j]) := fun j hj => by
      rw [take_cell BG hct (by omega), List.nil_append, List.getElem?_append_left (by simpa using hj), List.getElem?_map, List.getElem?_eq_getElem hj]; rfl
    have hG7 : w2.cell? ⟨g, xs.length, none⟩ = some (.int .u32 7) := by
      rw [take_cell BG hct (by omega), List.nil_append, List.getElem?_append_right (by simp)]; simp
    have hAg : Addrs w2 (some ⟨g, 0, none⟩) xs := ⟨⟨by simp, fun _ => ⟨_, rfl, hg2, fun j u hu => by
      rw [List.getElem?_map] at hu
      by_cases hj : j < xs.length
      · rw [List.getElem?_eq_getElem hj] at hu
        rw [Addr.add_mid, Nat.zero_add, hG j hj]; exact hu
      · rw [List.getElem?_eq_none (by omega)] at hu; cases hu⟩⟩, hA.2⟩
    have HG := Lib.hid hG; clear hG
    have HG7 := Lib.hid hG7; clear hG7
    clear at1 at2 gr1 gr2 own1 own2 bel1 bel2 hct
    have K : ∀ w', Below w2.heap.size w2 w' → ((w'.cell? ⟨w.heap.size, 0, none⟩ = some (.int .u8 me.a.toNat) ∧ w'.cell? ⟨w.heap.size, 1, none⟩ = some (.int .u8 me.b.toNat) ∧ w'.cell? ⟨w.heap.size, 2, none⟩ = some (.int .u8 me.c.toNat) ∧ w'.cell? ⟨w.heap.size, 3, none⟩ = some (.int .u8 me.d.toNat) ∧ w'.cell? ⟨w.heap.size, 4, none⟩ = some (.int .u8 me.e.toNat) ∧ w'.cell? ⟨w.heap.size, 5, none⟩ = some (.int .u8 me.f.toNat)) ∧
        (w'.cell? ⟨w.heap.size + 1, 0, none⟩ = some (.int .u8 to.a.toNat) ∧ w'.cell? ⟨w.heap.size + 1, 1, none⟩ = some (.int .u8 to.b.toNat) ∧ w'.cell? ⟨w.heap.size + 1, 2, none⟩ = some (.int .u8 to.c.toNat) ∧ w'.cell? ⟨w.heap.size + 1, 3, none⟩ = some (.int .u8 to.d.toNat) ∧ w'.cell? ⟨w.heap.size + 1, 4, none⟩ = some (.int .u8 to.e.toNat) ∧ w'.cell? ⟨w.heap.size + 1, 5, none⟩ = some (.int .u8 to.f.toNat)) ∧
        w'.cell? ⟨g, xs.length, none⟩ = some (.int .u32 7)) ∧ Below w2.heap.size w2 w' := fun w' h => ⟨⟨cells6 (B4.nx h), cells6 (B6.nx h), (h.cell (p := ⟨g, xs.length, none⟩) hg2).trans HG7.out⟩, h⟩
    have KK := Lib.hid K; clear K
    have i0 : (0 : Int) ≤ xs.length := by omega
    have i1 : (xs.length : Int) ≤ cap := by omega
    have i2 : (xs.length : Int) < (xs.length : Int) + 1 := by omega
    have i3 : xs.length ≤ cap := by omega
    go_region_held3 (fun w' => ((w'.cell? ⟨w.heap.size, 0, none⟩ = some (.int .u8 me.a.toNat) ∧ w'.cell? ⟨w.heap.size, 1, none⟩ = some (.int .u8 me.b.toNat) ∧ w'.cell? ⟨w.heap.size, 2, none⟩ = some (.int .u8 me.c.toNat) ∧ w'.cell? ⟨w.heap.size, 3, none⟩ = some (.int .u8 me.d.toNat) ∧ w'.cell? ⟨w.heap.size, 4, none⟩ = some (.int .u8 me.e.toNat) ∧ w'.cell? ⟨w.heap.size, 5, none⟩ = some (.int .u8 me.f.toNat)) ∧
        (w'.cell? ⟨w.heap.size + 1, 0, none⟩ = some (.int .u8 to.a.toNat) ∧ w'.cell? ⟨w.heap.size + 1, 1, none⟩ = some (.int .u8 to.b.toNat) ∧ w'.cell? ⟨w.heap.size + 1, 2, none⟩ = some (.int .u8 to.c.toNat) ∧ w'.cell? ⟨w.heap.size + 1, 3, none⟩ = some (.int .u8 to.d.toNat) ∧ w'.cell? ⟨w.heap.size + 1, 4, none⟩ = some (.int .u8 to.e.toNat) ∧ w'.cell? ⟨w.heap.size + 1, 5, none⟩ = some (.int .u8 to.f.toNat)) ∧
        w'.cell? ⟨g, xs.length, none⟩ = some (.int .u32 7)) ∧ Below w2.heap.size w2 w')
      (first | exact KK.out _ (rf _).drew | (refine KK.out _ ?_; first | (apply And.right <;> assumption) | (apply keepS <;> assumption)))
      (first | (go_at_call 14; refine (takes me to _ xs _ _ (hAg.nx (And.right (by assumption)))).mono ?_; rintro e w' ⟨rfl, hb⟩)
             | (go_at_call 15; refine (rtakes me to _ xs _ _ (hA2.nx (And.right (by assumption)))).mono ?_; rintro e w' ⟨rfl, hb⟩))
    all_goals
      have hbw : Below w2.heap.size w2 w' := And.right (by assumption)
      clear hb
      go_wp2
      go_loopw [10, 11] (fun ok i wr => ∃ k : Nat, k ≤ xs.length ∧ i = .int .i64 k ∧ ok = .bool true ∧ Below w2.heap.size w2 wr) (fun _ i _ => xs.length - (intOf i).toNat)
      case atStart => exact ⟨0, by omega, rfl, rfl, hbw⟩
      case round =>
        obtain ⟨k, hk, rfl, rfl, hwr⟩ := hrel
        by_cases hlt : k < xs.length
        · obtain ⟨ad, rfl, hab, hcell⟩ := (hA2.nx hwr).at_ hlt
          have hx := hA.2.1 xs[k] (List.getElem_mem hlt)
          have htk := takesTo_3 (me := me) hlt (Mac.same_self (groupMac xs[k]))
          have HTK := Lib.hid htk; clear htk
          have hAr := hA2.nx hwr
          have k0 : (0 : Int) ≤ k := by omega
          have k1 : (k : Int) < xs.length := by omega
          have k2 : (k : Int) < (xs.length : Int) + 1 := by omega
          have hgk : wr.cell? ⟨g, k, none⟩ = some (.int .u32 xs[k]) := (hwr.cell (p := ⟨g, k, none⟩) hg2).trans (HG.out k hlt)
          have K : ∀ w', Below wr.heap.size wr w' → ((w'.cell? ⟨w.heap.size, 0, none⟩ = some (.int .u8 me.a.toNat) ∧ w'.cell? ⟨w.heap.size, 1, none⟩ = some (.int .u8 me.b.toNat) ∧ w'.cell? ⟨w.heap.size, 2, none⟩ = some (.int .u8 me.c.toNat) ∧ w'.cell? ⟨w.heap.size, 3, none⟩ = some (.int .u8 me.d.toNat) ∧ w'.cell? ⟨w.heap.size, 4, none⟩ = some (.int .u8 me.e.toNat) ∧ w'.cell? ⟨w.heap.size, 5, none⟩ = some (.int .u8 me.f.toNat)) ∧
              w'.cell? ⟨g, k, none⟩ = some (.int .u32 xs[k]) ∧ w'.cell? (ad.add k) = some (.int .u32 xs[k])) ∧ Below wr.heap.size wr w' := fun w' h => ⟨⟨cells6 ((B4.nx hwr).nx h), (h.cell (p := ⟨g, k, none⟩) (Nat.lt_of_lt_of_le hg2 hwr.size)).trans hgk, (h.cell (by rw [block_of_add]; exact hab)).trans hcell⟩, h⟩
          have KR := Lib.hid K; clear K hcell hgk
          go_wp2_with fail
          go_region_held3 (fun w' => ((w'.cell? ⟨w.heap.size, 0, none⟩ = some (.int .u8 me.a.toNat) ∧ w'.cell? ⟨w.heap.size, 1, none⟩ = some (.int .u8 me.b.toNat) ∧ w'.cell? ⟨w.heap.size, 2, none⟩ = some (.int .u8 me.c.toNat) ∧ w'.cell? ⟨w.heap.size, 3, none⟩ = some (.int .u8 me.d.toNat) ∧ w'.cell? ⟨w.heap.size, 4, none⟩ = some (.int .u8 me.e.toNat) ∧ w'.cell? ⟨w.heap.size, 5, none⟩ = some (.int .u8 me.f.toNat)) ∧
              w'.cell? ⟨g, k, none⟩ = some (.int .u32 xs[k]) ∧ w'.cell? (ad.add k) = some (.int .u32 xs[k])) ∧ Below wr.heap.size wr w')
            (first | exact KR.out _ (rf _).drew | (refine KR.out _ ?_; first | (apply And.right <;> assumption) | (apply keepS <;> assumption)))
            (first | (go_at_call 16; refine (ofGroup _ _ hx.1 hx.2).mono ?_; rintro e w' ⟨rfl, hb⟩)
                   | (go_at_call 14; refine (takes me (groupMac xs[k]) _ xs _ _ (hAr.nx (And.right (by assumption)))).mono ?_; rintro e w' ⟨rfl, hb⟩; rw [HTK.out]))
          have hbr : Below wr.heap.size wr w' := And.right (by assumption)
          go_wp2
          go_roundw
          case rel => exact ⟨k + 1, by omega, by go_num, rfl, nx hwr hbr⟩
          case measure => simp [intOf]; omega
        · have K := cells6 (B4.nx hwr)
          have htk := takesTo_1 (xs := xs) (Mac.same_self me)
          have HTK := Lib.hid htk; clear htk
          have hq := fun w => eql_ll (groupMac a) (groupMac a) w
          rw [Mac.same_self] at hq
          go_wp2_with fail
          refine (takes me me _ xs _ _ (hA2.nx hwr)).mono ?_
          rintro e w3 ⟨rfl, hb3⟩
          rw [HTK.out]
          go_wp2_with fail
          refine (ofGroup_lit _ _ ha.1 ha.2).mono ?_
          rintro e w4 ⟨rfl, hb4⟩
          go_wp2_with fail
          refine (rofGroup_lit _ _ ha.1 ha.2).mono ?_
          rintro e w5 ⟨rfl, hb5⟩
          go_wp2_with fail
          refine (known _).mono ?_
          rintro e w6 ⟨rfl, hb6⟩
          go_wp2
          go_ret
          exact ⟨rfl, nx hbl (nx (nx (nx (nx hwr hb3) hb4) hb5) hb6)⟩

-- a slice of addresses that came in, opened
theorem open_addrs {H : Type} {enc : TypeId × Value → H} {w : World} {base b0 : Nat} {r : Reach} {v : Value} {d : DataW H} {p : List MemPlace}
    (hv : Value.okWide Try.prog w r b0 33 v) (h : DataW.Trod enc Try.prog w base (fun _ => true) true 33 v d p) : ∃ A xs c, v = .slice A xs.length c ∧ Addrs w A xs := by
  obtain ⟨A, len, cap, rfl⟩ := okWide_slice Try.underlying33 hv
  have lt0 : ∀ x ∈ p, x.block < w.heap.size := by obtain ⟨m, hm⟩ := h; exact DataW.trod_lt m _ _ _ hm
  obtain ⟨fuel, hf⟩ := h
  rcases open_ints Try.underlying33 Try.underlying35 (by kernel_rfl) hf with ⟨hcs, _⟩ | ⟨x, l, c, zs, hcs, _, hl, hm, hz, hx, hcell, hwz⟩
  · simp [Value.cells] at hcs
    obtain ⟨rfl, rfl, rfl⟩ := hcs
    exact ⟨none, [], 0, rfl, ⟨Reads.none_, by simp, by simp⟩⟩
  · simp [Value.cells] at hcs
    obtain ⟨rfl, rfl, rfl⟩ := hcs
    have hz' : zs.length = cap := by simpa using hz
    have hlt : (zs.take len).length = len := by rw [List.length_take]; omega
    refine ⟨some x, zs.take len, cap, by rw [hlt], ⟨⟨by simp, fun hn => ⟨x, rfl, ?_, fun j u hu => ?_⟩⟩, fun y hy => ?_, by rw [hlt]; unfold maxLen at hm; omega⟩⟩
    · rw [hlt] at hn
      have := hcell 0 (by omega)
      have hb := block_lt_of_cell this
      rwa [block_of_add] at hb
    · rw [List.getElem?_map] at hu
      by_cases hj : j < len
      · rw [List.getElem?_take_of_lt hj, List.getElem?_eq_getElem (by omega)] at hu
        rw [hcell j (by omega), List.getD_eq_getElem?_getD, List.getElem?_eq_getElem (by omega)]
        exact hu
      · rw [List.getElem?_eq_none (by rw [hlt]; omega)] at hu; cases hu
    · exact bounds_u32 (hwz y (List.mem_of_mem_take hy))

set_option maxRecDepth 100000 in
theorem etherTakes_lifted (os : Os) (started : os.Started) (H : Type) (enc : TypeId × Value → H) :
    ReturnsInHanded {} Try.checked os 5 .any (Rows.etherTakesSpec.pre6 enc Try.prog Try.f5 Rows.etherTakesRow.domain false) (Rows.etherTakesSpec.post enc Try.prog Try.f5 false true false false) :=
  law_lift started (by kernel_rfl) Try.func5
    (ChangeSpec.witness6 (enc := enc) (C := Try.checked) false ⟨#[], #[.agg #[.int .u8 0, .int .u8 0, .int .u8 0, .int .u8 0, .int .u8 0, .int .u8 0], .slice none 0 0, .agg #[.int .u8 0, .int .u8 0, .int .u8 0, .int .u8 0, .int .u8 0, .int .u8 0], .int .u32 0], []⟩ 8 (by kernel_rfl) (by kernel_rfl) (by kernel_rfl) (by kernel_rfl))
    rfl rfl Try.underlying4 (by kernel_rfl) (fun ds h => match ds, h with | [_, _, _, _], _ => rfl)
    (fun W base args ds p hval hA hsz => by
      rw [Try.params5] at hA hval
      obtain ⟨v0, v1, v2, v3, d0, d1, d2, d3, p0, p1, p2, p3, rfl, rfl, rfl, h0, h1, h2, h3⟩ := trodAll_four hA
      obtain ⟨me, rfl⟩ := open_mac (hval 0 23 v0 rfl rfl) h0
      obtain ⟨A, xs, c, rfl, hx⟩ := open_addrs (hval 1 33 v1 rfl rfl) h1
      obtain ⟨to, rfl⟩ := open_mac (hval 2 23 v2 rfl rfl) h2
      obtain ⟨a, rfl, rfl, rfl, wa⟩ := open_int Try.underlying35 (hval 3 35 v3 rfl rfl) h3
      exact etherTakes_walk me to A xs c a W hx (bounds_u32 wa))

theorem etherTakes_holds : Rows.EtherTakesSaid :=
  OpenClaim.holds_of_wide 5 Try.f5 rfl rfl rfl rfl rfl rfl rfl ⟨rfl, rfl, rfl, rfl, rfl⟩ rfl rfl rfl rfl rfl (by kernel_rfl) Try.func5 (by kernel_rfl)
    (of_decide_eq_true (by kernel_rfl)) (by unfold Func.isWrapper; rw [if_neg (of_decide_eq_false (by kernel_rfl))]; exact ⟨rfl, rfl⟩)
    (fun os started H enc _ => etherTakes_lifted os started H enc)
end Go.Proofs.Ytbfaonojemkhdaa
