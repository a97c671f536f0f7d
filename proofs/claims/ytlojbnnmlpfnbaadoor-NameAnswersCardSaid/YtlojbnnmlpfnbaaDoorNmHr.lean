/-
  Names: a question's head in the reference.
-/
import Derived.Test.YtlojbnnmlpfnbaaDoorNmHd
import Derived.Test.YtlojbnnmlpfnbaaDoorOctR1
set_option linter.unusedVariables false
namespace Go.Proofs.YtlojbnnmlpfnbaaDoor
open Go.RowKit

theorem nm_rtwo (w : World) (v : Int) (h0 : 0 ≤ v) (h1 : v ≤ 65535) :
    Calls Tryd.prog 33 #[.int .i64 v] w fun e w' => e = .returned (.slice (some ⟨w.heap.size, 0, none⟩) 2 2) ∧ w'.ownsRow w.heap.size 5 1 (.slice (some ⟨w.heap.size, 0, none⟩) 2 2) 2 (Lib.byteCells (beB v.toNat 2)) ∧ Below w.heap.size w w' := by
  refine (rtwo w v h0 h1).mono ?_
  rintro e w' ⟨rfl, rfl⟩
  refine ⟨rfl, ?_, al (rf w) _⟩
  rw [beB_two v h0 h1]
  exact own_lit w #[.int .u8 (v / 256), .int .u8 (v % 256)] 2 rfl (Nat.le_refl _) (by unfold maxLen; omega) rfl
theorem two_bytes {w : World} {base : Nat} {A : Option Addr} {c : Nat} {v : Nat} (h : w.ownsRow base 5 1 (.slice A 2 c) 2 (Lib.byteCells (beB v 2))) : Bytes w A (beB v 2) := by
  have e : (2 : Nat) = (beB v 2).length := by rw [beB_len]
  have h2 : w.ownsRow base 5 1 (.slice A (beB v 2).length c) (beB v 2).length (Lib.byteCells (beB v 2)) := by rw [← e]; exact h
  exact Bytes.own h2
set_option maxHeartbeats 1600000 in
theorem nmHeadR (w : World) (s : ByteArray) (t c u : Int) (D : Value) (hs : s.size ≤ 1000000) (hN : isN s.data.toList = true) (t0 : 0 ≤ t) (t1 : t ≤ 65535) (c0 : 0 ≤ c) (c1 : c ≤ 65535) :
    Calls Tryd.prog 34 #[.agg #[.string s, .int .i64 t, .int .i64 c, .int .i64 u, D]] w fun e w' => ∃ A k, e = .returned (.slice A (hdB s.data.toList t c).length k) ∧ w'.ownsRow w.heap.size 5 1 (.slice A (hdB s.data.toList t c).length k) (hdB s.data.toList t c).length (Lib.byteCells (hdB s.data.toList t c)) ∧ Below w.heap.size w w' := by
  have HN := Lib.hid hN
  have B0 := Lib.hid (al (rf w) (.cells #[.string s, .int .i64 t, .int .i64 c, .int .i64 u, D] 43))
  have X0 := Lib.hid (Blk.new w 43 #[.string s, .int .i64 t, .int .i64 c, .int .i64 u, D])
  have HP := Lib.hid (pk_lbs_len hN)
  clear hN
  go_enter Tryd.func34, Tryd.ntmps34
  go_wp2_with fail
  refine (rpackC s _ hs).mono ?_
  rintro e w1 (⟨hN, A, cc, rfl, own, b1⟩ | ⟨hN, rfl, b1⟩)
  · obtain ⟨P, hP⟩ : ∃ P, pk (lbs s.data.toList) = P := ⟨_, rfl⟩
    have X1 := Lib.hid (X0.out.nx b1)
    have B1 : Hid (Below w.heap.size w w1) := B0.out.trans (b1.mono (by simp))
    have z1 := B1.out.size
    rw [hP] at own HP
    have O1 := Lib.hid (own_base own (show w.heap.size ≤ _ by simp))
    have ownx := own
    have hPl : P.length ≤ 255 := HP.out
    have hx1 : w.heap.size < w1.heap.size := X1.out.lt
    clear hN
    rw [hP]
    have ow2 : w1.ownsRow (w.heap.size + 1) 5 1 (.slice A P.length cc) P.length (Lib.byteCells P) := by simpa using ownx
    have OS := Lib.hid ow2
    clear ow2
    clear own ownx O1 b1
    go_wp2
    have KK : Hid (∀ w', Below (w.heap.size + 1) w1 w' → (w'.cell? ⟨w.heap.size, 1, none⟩ = some (.int .i64 t) ∧ w'.cell? ⟨w.heap.size, 2, none⟩ = some (.int .i64 c))) := fun w' h => ⟨(X1.out.below h (by omega)).cell 1, (X1.out.below h (by omega)).cell 2⟩
    have tok1 : True := trivial
    go_region_held3 (fun w' => w'.cell? ⟨w.heap.size, 1, none⟩ = some (.int .i64 t) ∧ w'.cell? ⟨w.heap.size, 2, none⟩ = some (.int .i64 c))
      (first | exact KK.out _ ((rf w1).mono (by omega)).drew | exact KK.out _ BA2 | exact KK.out _ BA3 | exact KK.out _ BA4 | exact KK.out _ BA5)
      (first
        | (go_at_call 33; have _t := tok1; refine (nm_rtwo _ t t0 t1).mono ?_; rintro e w2 ⟨rfl, o2, b2⟩; have BA2 : Below (w.heap.size + 1) w1 w2 := ((rf w1).mono (by omega)).drew.trans (b2.mono (by simp; omega)); have z2 := BA2.size; have OS2 := own_nx OS.out.drew b2; clear tok1 _t)
        | (refine step_app stB rfl (.tmp 11) (.tmp 14) rfl (w.heap.size + 1) _ _ _ rfl OS2 _ 2 2 (Lib.byteCells (beB t.toNat 2)) rfl (two_bytes o2) (one_u8 _) (by omega) (by omega) (by omega) ?_; intro v3 w3 own3 gr3 at3 bel3; have BA3 : Below (w.heap.size + 1) w1 w3 := BA2.trans bel3; have z3 := BA3.size)
        | (go_at_call 33; refine (nm_rtwo _ c c0 c1).mono ?_; rintro e w4 ⟨rfl, o4, b4⟩; have BA4 : Below (w.heap.size + 1) w1 w4 := BA3.trans (b4.mono (by omega)); have z4 := BA4.size)
        | (refine step_app stB rfl (.tmp 15) (.tmp 18) rfl (w.heap.size + 1) _ _ _ rfl (own_nx own3 b4) _ 2 2 (Lib.byteCells (beB c.toNat 2)) rfl (two_bytes o4) (one_u8 _) (by omega) (by omega) (by omega) ?_; intro v5 w5 own5 gr5 at5 bel5; have BA5 : Below (w.heap.size + 1) w1 w5 := BA4.trans bel5))
    all_goals
      have eB : Lib.byteCells P ++ Lib.byteCells (beB t.toNat 2) ++ Lib.byteCells (beB c.toNat 2) = Lib.byteCells (hdB s.data.toList t c) := by
        unfold hdB; rw [hP, byteCells_app, byteCells_app]
      have eL : P.length + 2 + 2 = (hdB s.data.toList t c).length := by
        unfold hdB; rw [hP]; simp [beB_len]
      rw [eB, eL] at own5
      obtain ⟨A5, c5, rfl⟩ := own_slice own5
      have O5 := Lib.hid (own_base own5 (show w.heap.size ≤ w.heap.size + 1 by omega))
      have B5 : Hid (Below w.heap.size w w5) := B1.out.trans (BA5.mono (by omega))
      clear own5 own3 bel3 bel5 gr3 at3 gr5 at5 o2 o4 b2 b4 OS2 BA2 BA3 BA4 BA5 eB
      go_wp2
      go_ret
      exact ⟨A5, c5, rfl, O5.out, B5.out⟩
  · exact absurd (HN.out.symm.trans hN) (by simp)
end Go.Proofs.YtlojbnnmlpfnbaaDoor
