/-
  NameLoops: for every row of bytes and every two numbers the law 'names that lead round, or ahead, are refused, however they do it' returns true.
  No condition.
-/
import Derived.Test.YtlojbnnmlpfnbaaNmK
import Derived.Test.YtlojbnnmlpfnbaaLaw
import Derived.Test.YtlojbnnmlpfnbaaOpen
set_option linter.unusedVariables false
namespace Go.Proofs.Ytlojbnnmlpfnbaa
open Go.ChangeShapes Go.WideShapes Go.ChangeAt Go.RowKit

theorem loops_bytes {w : World} {g cap k : Nat} {b l : List UInt8} {cur : Array Value} (BG : Blk w g 5 cur) (hct : cur.toList.take (0 + b.length + 2) = [] ++ Lib.byteCells b ++ [.int .u8 192, .int .u8 0]) (hk : k < 16384)
    (hcap : 0 + b.length + 2 ≤ cap) (hcs : cur.size = cap) (hl : b ++ [UInt8.ofNat (192 + k / 256), UInt8.ofNat (k % 256)] = l) :
    Bytes ((w.setCell ⟨g, b.length, none⟩ (.int .u8 (192 + (k : Int) / 256))).setCell ⟨g, b.length + 1, none⟩ (.int .u8 ((k : Int) % 256))) (some ⟨g, 0, none⟩) l := by
  refine blk_bytes ((BG.set_ b.length (.int .u8 (192 + (k : Int) / 256))).set_ (b.length + 1) (.int .u8 ((k : Int) % 256))) 0 l (fun i hi => ?_)
  have hll : l.length = b.length + 2 := by rw [← hl]; simp
  rw [Nat.zero_add]
  subst hl
  by_cases h1 : i = b.length + 1
  · subst h1
    rw [Array.getElem?_setIfInBounds_self_of_lt (by rw [Array.size_setIfInBounds]; omega)]
    rw [List.getElem_append_right (by omega)]
    simp
  · rw [Array.getElem?_setIfInBounds_ne (by omega)]
    by_cases h2 : i = b.length
    · subst h2
      rw [Array.getElem?_setIfInBounds_self_of_lt (by omega)]
      rw [List.getElem_append_right (by omega)]
      have : (192 + k / 256) % 256 = 192 + k / 256 := by omega
      simp [this]
    · rw [Array.getElem?_setIfInBounds_ne (by omega), List.getElem_append_left (by omega)]
      have h3 := take_cell BG hct (j := i) (by omega)
      rw [BG.cell, List.nil_append, List.getElem?_append_left (by rw [byteCells_len]; omega), byteCells_at b i (by omega)] at h3
      exact h3
theorem loops_round {k : Nat} {b l : List UInt8} (hl : b ++ [UInt8.ofNat (192 + k / 256), UInt8.ofNat (k % 256)] = l) (hk : k < 16384) (hke : b.length ≤ k) : Hid (unp l b.length b.length (-1) [] = ([], 0, 10)) := by
  subst hl
  have h0 : (b ++ [UInt8.ofNat (192 + k / 256), UInt8.ofNat (k % 256)])[b.length]'(by simp) = UInt8.ofNat (192 + k / 256) := by rw [List.getElem_append_right (by omega)]; simp
  have h1 : (b ++ [UInt8.ofNat (192 + k / 256), UInt8.ofNat (k % 256)])[b.length + 1]'(by simp) = UInt8.ofNat (k % 256) := by rw [List.getElem_append_right (by omega)]; simp
  have e0 : (UInt8.ofNat (192 + k / 256)).toNat = 192 + k / 256 := by rw [UInt8.toNat_ofNat']; omega
  have e1 : (UInt8.ofNat (k % 256)).toNat = k % 256 := by rw [UInt8.toNat_ofNat']; omega
  exact unp_loop _ _ _ _ _ (by simp) (by rw [h0, e0]; omega) (by simp) (by rw [h0, h1, e0, e1]; omega)
set_option maxHeartbeats 1600000 in
theorem nameLoops_walk (A : Option Addr) (b : List UInt8) (c : Nat) (from_ to_ : Int) (w : World) (hb : Bytes w A b) (t0 : -9223372036854775808 ≤ to_) (t1 : to_ ≤ 9223372036854775807) :
    Calls Try.prog 3 #[.slice A b.length c, .int .i64 from_, .int .i64 to_] w fun e w' => e = .returned (.bool true) ∧ Below w.heap.size w w' := by
  by_cases hl : 200 < b.length
  · have hl2 : (200 : Int) < b.length := by omega
    go_enter Try.func3, Try.ntmps3
    go_wp2
    go_ret
    exact ⟨rfl, rf w⟩
  · have hl2 : ¬ (200 : Int) < b.length := by omega
    obtain ⟨m, hm⟩ : ∃ m, to_.tmod ((b.length : Int) + 2 + 60) = m := ⟨_, rfl⟩
    have m0 : -((b.length : Int) + 62) < m := by
      have := Int.lt_tmod_of_pos to_ (show (0 : Int) < (b.length : Int) + 2 + 60 by omega)
      omega
    have m1 : m < (b.length : Int) + 62 := by
      have := Int.tmod_lt_of_pos to_ (show (0 : Int) < (b.length : Int) + 2 + 60 by omega)
      omega
    clear hl
    obtain ⟨k, hk, hk0, hk1⟩ : ∃ k : Nat, Hid ((m < 0 ∧ m + ((b.length : Int) + 2) + 60 = k) ∨ (0 ≤ m ∧ (k : Int) = m)) ∧ 0 ≤ k ∧ k < b.length + 62 := by
      by_cases h : m < 0
      · exact ⟨(m + ((b.length : Int) + 2) + 60).toNat, .inl ⟨h, by omega⟩, by omega, by omega⟩
      · exact ⟨m.toNat, .inr ⟨by omega, by omega⟩, by omega, by omega⟩
    rcases hk.out with ⟨hneg, hkk⟩ | ⟨hneg, rfl⟩
    all_goals
      go_enter Try.func3, Try.ntmps3
      go_wp2_with (first
        | (at_builtin
           refine app_any stB rfl (.tmp 19) (.tmp 20) rfl w.heap.size _ 0 [] rfl (own_lit _ #[] 0 ?b1 (by omega) (by decide) rfl) A b.length c (Lib.byteCells b) rfl (hb.nx (al (rf w) _)) (one_u8 b) (by omega) (by omega) ?b2 ?_
           case b1 => simp
           case b2 => simp
           intro v1 w1 own1 gr1 at1 bel1)
        | (at_builtin
           refine app_any stB rfl (.tmp 21) (.tmp 22) rfl w.heap.size v1 _ _ rfl (own1.alloc _) _ 2 _ [.int .u8 192, .int .u8 0] rfl (Reads.blk (blk_at _ _ _ ?b4) rfl rfl) (by simp [Value.oneCell']) (by omega) (by omega) ?b3 ?_
           case b4 => simp
           case b3 => have := bel1.size; simp at this ⊢; omega
           intro v2 w2 own2 gr2 at2 bel2
           obtain ⟨g, cap, rfl, hg, hg2, hcap, hcm, cur, BG, hcs, hct⟩ := own_form own2 (by omega)
           have i1 : (b.length : Int) + 2 ≤ cap := by omega
           have c0 := take_cell BG hct (j := b.length) (by omega)
           have c1 := take_cell BG hct (j := b.length + 1) (by omega)
           rw [List.nil_append, List.getElem?_append_right (by rw [byteCells_len]; omega), byteCells_len, Nat.sub_self] at c0
           rw [List.nil_append, List.getElem?_append_right (by rw [byteCells_len]; omega), byteCells_len, Nat.add_sub_cancel_left] at c1
           simp only [List.getElem?_cons_succ, List.getElem?_cons_zero] at c0 c1
           have f0 := BG.frozen b.length
           have f1 := BG.frozen (b.length + 1)
           have HBG := Lib.hid BG
           have HCT := Lib.hid hct
           have HCS := Lib.hid hcs
           have B2 : Hid (Below w.heap.size w w2) := (al (rf w) _).trans ((bel1.alloc (by have := bel1.size; simp at this; omega) _).trans bel2)
           clear BG hct hcs own2 gr2 at2 bel2 own1 gr1 at1 bel1))
      obtain ⟨l, hl⟩ : ∃ l : List UInt8, b ++ [UInt8.ofNat (192 + k / 256), UInt8.ofNat (k % 256)] = l := ⟨_, rfl⟩
      have hll : l.length = b.length + 2 := by rw [← hl]; simp
      have BW := Lib.hid (loops_bytes HBG.out HCT.out (k := k) (by omega) hcap HCS.out hl)
      have B3 : Hid (Below w.heap.size w ((w2.setCell ⟨g, b.length, none⟩ (.int .u8 (192 + (k : Int) / 256))).setCell ⟨g, b.length + 1, none⟩ (.int .u8 ((k : Int) % 256)))) := (B2.out.setCell (p := ⟨g, b.length, none⟩) hg _).setCell (p := ⟨g, b.length + 1, none⟩) hg _
      generalize ((w2.setCell ⟨g, b.length, none⟩ (.int .u8 (192 + (k : Int) / 256))).setCell ⟨g, b.length + 1, none⟩ (.int .u8 ((k : Int) % 256))) = W3 at BW B3 ⊢
      by_cases hke : b.length ≤ k
      · have ike : (b.length : Int) ≤ k := by omega
        have C := unpC g 0 l cap b.length W3 BW.out (by omega) (by omega) (by omega) ([], 0, 10) (loops_round hl (by omega) hke)
        rw [hll] at C
        have HLL := Lib.hid hll; clear hll hl
        refine C.mono ?_
        rintro e w4 ⟨rfl, b4⟩
        clear C
        go_wp2_with fail
        refine (known _).mono ?_
        rintro e w5 ⟨rfl, b5⟩
        go_wp2
        go_ret
        exact ⟨rfl, nx (nx B3.out b4) b5⟩
      · have ike : ¬ (b.length : Int) ≤ k := by omega
        obtain ⟨R, hR⟩ : ∃ R, unp l b.length b.length (-1) [] = R := ⟨_, rfl⟩
        obtain ⟨r1, r2, r3⟩ := R
        have HR := Lib.hid hR; clear hR
        have C := unpC g 0 l cap b.length W3 BW.out (by omega) (by omega) (by omega) _ HR
        rw [hll] at C
        have HLL := Lib.hid hll; clear hll hl
        refine C.mono ?_
        rintro e w4 ⟨rfl, b4⟩
        clear C
        have C := rUnpC g 0 l cap b.length w4 (BW.out.nx b4) (by have := HLL.out; omega) (by have := HLL.out; omega) (by omega) _ HR
        rw [HLL.out] at C
        have HC := Lib.hid C; clear C
        go_wp2_with fail
        refine HC.out.mono ?_
        rintro e w5 ⟨rfl, b5⟩
        go_wp2_with fail
        refine (known _).mono ?_
        rintro e w6 ⟨rfl, b6⟩
        go_wp2
        go_ret
        exact ⟨rfl, nx (nx (nx B3.out b4) b5) b6⟩
theorem nm_i64 {H : Type} {enc : TypeId × Value → H} {w : World} {base b0 : Nat} {r : Reach} {sp : Nat → Bool} {held : Bool} {v : Value} {d : DataW H} {p : List MemPlace}
    (hv : Value.okWide Try.prog w r b0 3 v) (h : DataW.Trod enc Try.prog w base sp held 3 v d p) : ∃ n, v = .int .i64 n ∧ -9223372036854775808 ≤ n ∧ n ≤ 9223372036854775807 := by
  obtain ⟨k, rfl⟩ := okWide_int Try.underlying3 hv
  obtain ⟨fuel, hf⟩ := h
  obtain ⟨n, h1, _, h2⟩ := DataW.trod_int Try.underlying3 hf
  simp [Value.cells] at h1
  subst h1
  refine ⟨_, rfl, ?_, ?_⟩ <;> (simp [Lit.wf, IntKind.min, IntKind.max, IntKind.signed, IntKind.bits] at h2; omega)
set_option maxRecDepth 100000 in
theorem nameLoops_lifted (os : Os) (started : os.Started) (H : Type) (enc : TypeId × Value → H) :
    ReturnsInHanded {} Try.checked os 3 .any (Rows.nameLoopsSpec.pre6 enc Try.prog Try.f3 Rows.nameLoopsRow.domain false) (Rows.nameLoopsSpec.post enc Try.prog Try.f3 false true false false) :=
  law_lift started (by kernel_rfl) Try.func3
    (ChangeSpec.witness6 (enc := enc) (C := Try.checked) false ⟨#[], #[.slice none 0 0, .int .i64 0, .int .i64 0], []⟩ 8 (by kernel_rfl) (by kernel_rfl) (by kernel_rfl) (by kernel_rfl))
    rfl rfl Try.underlying4 (by kernel_rfl) (fun ds h => match ds, h with | [_, _, _], _ => rfl)
    (fun W base args ds p hval hA hsz => by
      rw [Try.params3] at hA hval
      obtain ⟨v0, v1, v2, d0, d1, d2, p0, p1, p2, rfl, rfl, rfl, h0, h1, h2⟩ := trodAll_three hA
      obtain ⟨A, l, c, rfl, hb, hl, hc⟩ := open_bytes2 (hval 0 22 v0 rfl rfl) h0
      obtain ⟨n1, rfl, a0, a1⟩ := nm_i64 (hval 1 3 v1 rfl rfl) h1
      obtain ⟨n2, rfl, a2, a3⟩ := nm_i64 (hval 2 3 v2 rfl rfl) h2
      exact nameLoops_walk A l c n1 n2 W hb a2 a3)
theorem nameLoops_holds : Rows.NameLoopsSaid :=
  OpenClaim.holds_of_wide 3 Try.f3 rfl rfl rfl rfl rfl rfl rfl ⟨rfl, rfl, rfl, rfl, rfl⟩ rfl rfl rfl rfl rfl (by kernel_rfl) Try.func3 (by kernel_rfl)
    (of_decide_eq_true (by kernel_rfl)) (by unfold Func.isWrapper; rw [if_neg (of_decide_eq_false (by kernel_rfl))]; exact ⟨rfl, rfl⟩)
    (fun os started H enc _ => nameLoops_lifted os started H enc)
end Go.Proofs.Ytlojbnnmlpfnbaa
