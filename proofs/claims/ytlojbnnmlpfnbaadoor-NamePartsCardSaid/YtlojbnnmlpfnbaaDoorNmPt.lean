/-
  NameParts: for every two texts the law 'a name behind another one, whose end leads to that one's tail, is read as the whole' returns true.
-/
import Derived.Test.YtlojbnnmlpfnbaaDoorNmT
import Derived.Test.YtlojbnnmlpfnbaaDoorNmKn
set_option linter.unusedVariables false
namespace Go.Proofs.YtlojbnnmlpfnbaaDoor
open Go.RowKit

theorem nm_take {w : World} {A : Option Addr} {l : List UInt8} {m : Nat} (h : Bytes w A l) (hm : m ≤ l.length) : Reads w w.heap.size 1 A m (Lib.byteCells (l.take m)) := by
  have hl : (l.take m).length = m := by rw [List.length_take]; omega
  refine ⟨by rw [byteCells_len, hl, Nat.mul_one], fun hn => ?_⟩
  obtain ⟨ad, hA, hb, hc⟩ := h.2 (by omega)
  refine ⟨ad, hA, hb, fun j u hu => hc j u ?_⟩
  have hj : j < (l.take m).length := by rw [← byteCells_len]; exact (List.getElem?_eq_some_iff.1 hu).1
  rw [byteCells_at _ j hj] at hu
  rw [byteCells_at _ j (by omega), ← hu]
  simp
theorem isN_parts {s : List UInt8} (h : isN s = true) (h0 : s ≠ []) : lbs s = spl s ∧ goodL (spl s) ∧ szL (spl s) = s.length + 1 ∧ s.length ≤ 253 := by
  unfold isN at h
  simp only [h0, decide_false, Bool.false_or, Bool.and_eq_true, decide_eq_true_eq, List.all_eq_true] at h
  refine ⟨if_neg h0, fun x hx => ?_, szL_spl s, h.1⟩
  have h3 := h.2 x hx
  simp only [okL, Bool.and_eq_true, decide_eq_true_eq] at h3
  exact ⟨spl_dots s x hx, h3.1, h3.2⟩
theorem empty_str {s : ByteArray} (h : s.size = 0) : s.toList.isEmpty = true ∧ s.toList = [] := by
  have hl : s.data.toList = [] := List.eq_nil_of_length_eq_zero (by rw [str_len]; exact h)
  exact ⟨by rw [ByteArray.toList_eq, hl]; rfl, by rw [ByteArray.toList_eq, hl]⟩
theorem full_str {s : ByteArray} (h : s.size ≠ 0) : s.toList.isEmpty = false ∧ s.toList ≠ [] ∧ s.data.toList ≠ [] := by
  have hne : s.data.toList ≠ [] := by intro e; have := str_len s; rw [e] at this; simp at this; omega
  exact ⟨by rw [ByteArray.toList_eq]; cases hc : s.data.toList with | nil => exact absurd hc hne | cons a l => rfl, by rw [ByteArray.toList_eq]; exact hne, hne⟩
set_option maxHeartbeats 1600000 in
theorem nameParts_out (a b : ByteArray) (w : World) (ha : a.size ≤ 140737488355327) (hb : b.size ≤ 140737488355327) (h : 200 < (a.size : Int) + b.size ∨ a.size = 0 ∨ b.size = 0) :
    Calls Tryd.prog 4 #[.string a, .string b] w fun e w' => e = .returned (.bool true) ∧ Below w.heap.size w w' := by
  by_cases h1 : 200 < (a.size : Int) + b.size
  · clear h
    go_enter Tryd.func4, Tryd.ntmps4
    go_wp2
    go_ret
    exact ⟨rfl, rf w⟩
  · by_cases h2 : a.size = 0
    · obtain ⟨e1, e2⟩ := empty_str h2
      clear h h2
      go_enter Tryd.func4, Tryd.ntmps4
      go_wp2
      go_ret
      exact ⟨rfl, rf w⟩
    · obtain ⟨e1, e2⟩ := empty_str (show b.size = 0 by omega)
      obtain ⟨e3, e4, _⟩ := full_str h2
      clear h h2
      go_enter Tryd.func4, Tryd.ntmps4
      go_wp2
      go_ret
      exact ⟨rfl, rf w⟩
set_option maxHeartbeats 3200000 in
theorem nameParts_in (a b : ByteArray) (w : World) (hm : MaxL w) (h1 : ¬ 200 < (a.size : Int) + b.size) (h2 : a.size ≠ 0) (h3 : b.size ≠ 0) :
    Calls Tryd.prog 4 #[.string a, .string b] w fun e w' => e = .returned (.bool true) ∧ Below w.heap.size w w' := by
  obtain ⟨a1, a2, a3⟩ := full_str h2
  obtain ⟨b1, b2, b3⟩ := full_str h3
  have HA3 := Lib.hid a3
  have HB3 := Lib.hid b3
  clear a3 b3 h2 h3
  go_enter Tryd.func4, Tryd.ntmps4
  go_wp2_with fail
  refine (packC a w (by omega) hm).mono ?_
  rintro e w1 (⟨hN1, A1, c1, rfl, own1, bb1⟩ | ⟨hN1, rfl, bb1⟩)
  · have HN1 := Lib.hid hN1
    clear hN1
    have OWN1 := Lib.hid own1
    clear own1
    go_wp2_with fail
    refine (packC b w1 (by omega) (hm.nx bb1)).mono ?_
    rintro e w2 (⟨hN2, A2, c2, rfl, own2, bb2⟩ | ⟨hN2, rfl, bb2⟩)
    · obtain ⟨p1, p2, p3, p4⟩ := isN_parts HN1.out HA3.out
      obtain ⟨q1, q2, q3, q4⟩ := isN_parts hN2 HB3.out
      have JA := jn_spl a.data.toList
      have JB := jn_spl b.data.toList
      have own1 := OWN1.out
      rw [p1] at own1 ⊢
      rw [q1] at own2 ⊢
      rw [str_len] at p3 q3
      obtain ⟨LA, hLA⟩ : ∃ L, spl a.data.toList = L := ⟨_, rfl⟩
      obtain ⟨LB, hLB⟩ : ∃ L, spl b.data.toList = L := ⟨_, rfl⟩
      have hAne : LA ≠ [] := by rw [← hLA]; exact spl_ne _
      have hBne : LB ≠ [] := by rw [← hLB]; exact spl_ne _
      rw [hLA] at own1 p2 p3 JA ⊢
      rw [hLB] at own2 q2 q3 JB ⊢
      have HU := Lib.hid (unp_parts LA LB p2 q2 hAne (by omega))
      have HJ := Lib.hid (jn_two LA LB hAne hBne)
      have hpl : (pk LA).length = a.size + 2 := by unfold pk; rw [List.length_append, pkl_len, p3]; simp
      have hql : (pk LB).length = b.size + 2 := by unfold pk; rw [List.length_append, pkl_len, q3]; simp
      have hqt : (pk LB).take (b.size + 1) = pkl LB := by unfold pk; rw [← q3, ← pkl_len, List.take_left]
      have HQT := Lib.hid hqt
      have HPL := Lib.hid hpl
      have HQL := Lib.hid hql
      rw [hpl] at own1 ⊢
      rw [hql] at own2 ⊢
      have BY1 : Hid (Bytes w2 A1 (pk LA)) := by
        have := own_nx own1 bb2
        show Bytes _ _ _
        exact (show World.ownsRow w2 w.heap.size 5 1 (.slice A1 (pk LA).length c1) (pk LA).length _ by rw [hpl]; exact this) |> Bytes.own
      have BY2 : Hid (Bytes w2 A2 (pk LB)) := by
        show Bytes _ _ _
        exact (show World.ownsRow w2 w1.heap.size 5 1 (.slice A2 (pk LB).length c2) (pk LB).length _ by rw [hql]; exact own2) |> Bytes.own
      obtain ⟨g2, cap2, hv2, _, _, hcap2, hcm2, _⟩ := own_form own2 (by omega)
      have hcc : c2 = cap2 := by injection hv2
      subst hcc
      have z1 : ((a.size : Int) + 2 == 0) = false := by rw [beq_eq_false_iff_ne]; omega
      have z2 : ((b.size : Int) + 2 == 0) = false := by rw [beq_eq_false_iff_ne]; omega
      have z3 : (b.size : Int) + 1 ≤ c2 := by omega
      have z4 : b.size + 1 ≤ c2 := by omega
      have HJA := Lib.hid JA
      have HJB := Lib.hid JB
      clear JA JB own1 own2 hqt p1 q1 p2 q2 p3 q3 hLA hLB hN2 hpl hql hAne hBne hv2
      have B2 := Lib.hid (nx bb1 bb2)
      have RD2 : Hid (∀ W, Below w2.heap.size w2 W → Reads W W.heap.size 1 A2 (b.size + 1) (Lib.byteCells (pkl LB))) := fun W k => by
        have := nm_take (m := b.size + 1) (BY2.out.nx k) (by rw [HQL.out]; omega)
        rw [HQT.out] at this
        exact this
      have RD1 : Hid (∀ W, Below w2.heap.size w2 W → Reads W W.heap.size 1 A1 (a.size + 2) (Lib.byteCells (pk LA))) := fun W k => by
        have := BY1.out.nx k
        unfold Bytes at this
        rw [HPL.out] at this
        exact this
      go_wp2
      have i1 : IntKind.i64.wrap ((b.size : Int) + 2 - 1) = b.size + 1 := by rw [IntWalk.i64_in _ (by omega)]; omega
      have i2 : (0 : Int) ≤ (b.size : Int) + 1 := by omega
      have i3 : ((b.size : Int) + 1).toNat = b.size + 1 := by omega
      go_region_held3 (fun w' => Below w2.heap.size w2 w')
        ((with_reducible (first | assumption | exact (rf w2).drew | exact (al (rf w2) _).drew | exact BA4 | exact BA5 | fail)))
        (first
          | (refine step_app stB rfl (.tmp 52) (.tmp 53) rfl w2.heap.size _ 0 [] rfl (show World.ownsRow (w2.alloc (.cells #[] 5)).drew w2.heap.size 5 1 _ 0 [] from own_lit (base := w2.heap.size) w2 #[] 0 rfl (Nat.le_refl _) (by decide) rfl) A1 (a.size + 2) c1 (Lib.byteCells (pk LA)) rfl (RD1.out _ (al (rf w2) _).drew) (one_u8 _) (by omega) (by omega) (by simp) ?_; intro v4 w4 own4 gr4 at4 bel4
             have BA4 : Below w2.heap.size w2 w4 := (al (rf w2) _).drew.trans bel4)
          | (refine step_app stB rfl (.tmp 54) (.tmp 59) rfl w2.heap.size v4 _ ([] ++ Lib.byteCells (pk LA)) rfl own4 A2 (b.size + 1) c2 (Lib.byteCells (pkl LB)) rfl (RD2.out _ BA4) (one_u8 _) (by omega) (by omega) BA4.size ?_; intro v5 w5 own5 gr5 at5 bel5
             have BA5 : Below w2.heap.size w2 w5 := BA4.trans bel5)
          | fail)
      all_goals
        have e5 : [] ++ Lib.byteCells (pk LA) ++ Lib.byteCells (pkl LB) = Lib.byteCells (pk LA ++ pkl LB) := by rw [byteCells_app]; rfl
        rw [e5, Nat.zero_add] at own5
        have OWN5 := Lib.hid own5
        have B5 := Lib.hid (nx B2.out BA5)
        have z5 := BA5.size
        clear own4 own5 bel4 bel5 BA4 BA5 e5 gr4 gr5 at4 at5 i1 i2 i3 z1 z2
        obtain ⟨X, hX⟩ : ∃ X, pk LA ++ pkl LB ++ [192, 0] = X := ⟨_, rfl⟩
        obtain ⟨N, hN⟩ : ∃ N, a.size + 2 + (b.size + 1) + 2 = N := ⟨_, rfl⟩
        have hXN : X.length = N := by
          have h8 := OWN5.out.1
          rw [byteCells_len] at h8
          rw [← hX, List.length_append, h8]; simp; omega
        have hu := HU.out
        rw [hX, HPL.out, hXN] at hu
        have HUX := Lib.hid hu
        have HXX := Lib.hid hX
        have HXN := Lib.hid hXN
        have hN9 : N ≤ 300 := by omega
        have hNp : 0 < N := by omega
        clear hu hX hXN
        go_wp2_with (at_builtin
                     refine app_any stB rfl (.tmp 61) (.tmp 62) rfl w2.heap.size _ _ _ rfl (OWN5.out.alloc _) _ 2 _ [.int .u8 192, .int .u8 0] rfl (Reads.blk (blk_at _ _ _ ?b4) rfl rfl) (by simp [Value.oneCell']) (by omega) (by omega) ?b3 ?_
                     case b4 => simp
                     case b3 => simp; omega
                     intro v6 w6 own6 gr6 at6 bel6)
        have e6 : Lib.byteCells (pk LA ++ pkl LB) ++ [.int .u8 192, .int .u8 0] = Lib.byteCells X := by
          rw [← HXX.out, byteCells_app (pk LA ++ pkl LB) [192, 0]]; rfl
        rw [e6, hN] at own6
        obtain ⟨g6, cap6, rfl, hg6, hg7, hcap6, hcm6, _⟩ := own_form own6 hNp
        have BYX : Hid (Bytes w6 (some ⟨g6, 0, none⟩) X) := by
          show Bytes _ _ _
          unfold Bytes
          rw [HXN.out]
          exact Reads.of_own own6 |>.more (Nat.le_refl _)
        have B6 : Hid (Below w.heap.size w w6) := (al B5.out _).trans (bel6.mono B2.out.size)
        clear own6 gr6 at6 bel6 e6
        have C := unpC g6 0 X cap6 (a.size + 2) w6 BYX.out (by rw [HXN.out]; omega) (by rw [HXN.out]; exact hcap6) (by omega) _ HUX
        rw [HXN.out, show (((a.size + 2 : Nat)) : Int) = (a.size : Int) + 2 from rfl] at C
        have HC := Lib.hid C; clear C
        have hstr : (⟨(jn (LB ++ LA)).toArray⟩ : ByteArray) = b ++ ⟨#[46]⟩ ++ a := by
          apply bytes_ext
          rw [HJ.out, HJB.out, HJA.out]
          simp
        have HSTR := Lib.hid hstr; clear hstr
        have sz1 : b.size + 1 + a.size ≤ 300 := by omega
        refine HC.out.mono ?_
        rintro e w7 ⟨rfl, b7⟩
        simp only
        rw [HSTR.out]
        go_wp2_with fail
        refine (known _).mono ?_
        rintro e w8 ⟨rfl, b8⟩
        go_wp2
        go_ret
        exact ⟨rfl, nx (nx B6.out b7) b8⟩
    · have HN2 := Lib.hid hN2
      clear hN2
      go_wp2_with fail
      refine (known _).mono ?_
      rintro e w4 ⟨rfl, b4⟩
      go_wp2
      go_ret
      exact ⟨rfl, nx (nx bb1 bb2) b4⟩
  · have HN1 := Lib.hid hN1
    clear hN1
    go_wp2_with fail
    refine (packC b w1 (by omega) (hm.nx bb1)).mono ?_
    rintro e w2 (⟨hN2, A2, c2, rfl, own2, bb2⟩ | ⟨hN2, rfl, bb2⟩)
    · clear hN2 own2
      go_wp2_with fail
      refine (known _).mono ?_
      rintro e w4 ⟨rfl, b4⟩
      go_wp2
      go_ret
      exact ⟨rfl, nx (nx bb1 bb2) b4⟩
    · clear hN2
      go_wp2_with fail
      refine (known _).mono ?_
      rintro e w4 ⟨rfl, b4⟩
      go_wp2
      go_ret
      exact ⟨rfl, nx (nx bb1 bb2) b4⟩
end Go.Proofs.YtlojbnnmlpfnbaaDoor
