/-
  NamePacks: for every text the law 'any text is a name's bytes, or refused; and these are read as it' returns true.
  The listed variables (two tables of the library) hold what the program's text lays; the proof does not use them.
-/
import Derived.Test.YtlojbnnmlpfnbaaDoorNmRp
import Derived.Test.YtlojbnnmlpfnbaaDoorNmKn
import Derived.Test.YtlojbnnmlpfnbaaDoorHelp21
set_option linter.unusedVariables false
namespace Go.Proofs.YtlojbnnmlpfnbaaDoor
open Go.RowKit

set_option maxHeartbeats 1600000 in
theorem namePacks_walk (s : ByteArray) (at_ : Int) (w : World) (hm : MaxL w) (hmax : s.size ≤ 9223372036854775807) :
    Calls Tryd.prog 3 #[.string s, .int .i64 at_] w fun e w' => e = .returned (.bool true) ∧ Below w.heap.size w w' := by
  by_cases hl : 3000 < (s.size : Int)
  · go_enter Tryd.func3, Tryd.ntmps3
    go_wp2
    go_ret
    exact ⟨rfl, rf w⟩
  · go_enter Tryd.func3, Tryd.ntmps3
    go_wp2_with fail
    refine (packC s w (by omega) hm).mono ?_
    rintro e w1 (⟨hN, A1, c1, rfl, own1, b1⟩ | ⟨hN, rfl, b1⟩)
    · obtain ⟨u1, u2⟩ := unp_isN s.data.toList hN
      obtain ⟨L, hL⟩ : ∃ L, lbs s.data.toList = L := ⟨_, rfl⟩
      rw [hL] at own1 u1 u2 ⊢
      obtain ⟨l, hl2⟩ : ∃ l, pk L = l := ⟨_, rfl⟩
      have hll : l.length ≤ 300 ∧ 0 < l.length := by
        rw [← hl2]
        refine ⟨?_, by simp [pk]⟩
        have h1 : szL L ≤ 254 := by
          rw [← hL]
          unfold isN at hN
          unfold lbs
          by_cases h0 : s.data.toList = []
          · rw [if_pos h0]; simp [szL]
          · rw [if_neg h0]
            simp only [h0, decide_false, Bool.false_or, Bool.and_eq_true, decide_eq_true_eq] at hN
            rw [szL_spl]; omega
        have h2 := pkl_len L
        unfold pk; rw [List.length_append]; simp; omega
      rw [hl2] at own1 u1 ⊢
      have HN := Lib.hid hN
      have HLL := Lib.hid hL
      have HL2 := Lib.hid hl2
      have hu2 : (⟨(jn L).toArray⟩ : ByteArray) = s := bytes_ext (by simpa using u2)
      have U1 := Lib.hid u1
      have U2 := Lib.hid hu2
      clear hN hL hl2 u1 u2 hu2
      obtain ⟨g, cap, hv, _, _, hcap, _⟩ := own_form own1 hll.2
      injection hv with hA hn hcc
      subst hA hcc
      clear hn
      have BY1 := Lib.hid (Bytes.own own1)
      clear own1
      go_wp2_with fail
      refine (rpackC s _ (by omega)).mono ?_
      rintro e w2 (⟨_, A2, c2, rfl, own2, b2⟩ | ⟨hN2, rfl, b2⟩)
      · rw [HLL.out, HL2.out] at own2 ⊢
        have BY2 := Lib.hid (Bytes.own own2)
        have BY12 := Lib.hid (BY1.out.nx b2)
        clear own2
        go_wp2_with fail
        refine (same_ _ _ A2 l l _ _ _ c2 BY12.out BY2.out rfl rfl (by omega) (by omega)).mono ?_
        rintro e w3 ⟨rfl, b3⟩
        rw [show (l == l) = true from beq_self_eq_true _]
        have C := unpC g 0 l c1 0 w3 (BY12.out.nx b3) (by omega) hcap (by omega) _ U1
        have HC := Lib.hid C; clear C
        go_wp2_with fail
        refine HC.out.mono ?_
        rintro e w4 ⟨rfl, b4⟩
        simp only
        rw [U2.out]
        go_wp2_with fail
        refine (known _).mono ?_
        rintro e w5 ⟨rfl, b5⟩
        go_wp2
        go_ret
        exact ⟨rfl, nx (nx (nx (nx b1 b2) b3) b4) b5⟩
      · exact absurd (HN.out.symm.trans hN2) (by decide)
    · have HN := Lib.hid hN
      clear hN
      go_wp2_with fail
      refine (rpackC s _ (by omega)).mono ?_
      rintro e w2 (⟨hN2, _⟩ | ⟨_, rfl, b2⟩)
      · exact absurd (HN.out.symm.trans hN2) (by decide)
      · go_wp2_with fail
        refine (same_ _ none none [] [] 0 0 0 0 (Bytes.nil _ _) (Bytes.nil _ _) rfl rfl (by simp) (by simp)).mono ?_
        rintro e w3 ⟨rfl, b3⟩
        rw [show (([] : List UInt8) == []) = true from rfl]
        go_wp2_with fail
        refine (known _).mono ?_
        rintro e w4 ⟨rfl, b4⟩
        go_wp2
        go_ret
        exact ⟨rfl, nx (nx (nx b1 b2) b3) b4⟩
end Go.Proofs.YtlojbnnmlpfnbaaDoor
