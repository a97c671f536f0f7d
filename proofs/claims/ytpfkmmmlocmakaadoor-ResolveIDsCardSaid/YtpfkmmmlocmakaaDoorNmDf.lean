/-
  Names: what the program's Decode reads behind what its Encode writes: a name at a place, numbers, the reader's calls where there is enough.
-/
import Derived.Test.YtpfkmmmlocmakaaDoorNmEn
import Derived.Test.YtpfkmmmlocmakaaDoorNmT
import Derived.Test.YtpfkmmmlocmakaaDoorNmP
import Derived.Test.YtpfkmmmlocmakaaDoorOctRd
set_option linter.unusedVariables false
namespace Go.Proofs.YtpfkmmmlocmakaaDoor
open Go.RowKit

theorem beN_beB2 (v : Nat) (h : v < 65536) : beN (beB v 2) = v := by
  simp only [beN, beB, List.foldl_cons, List.foldl_nil, UInt8.toNat_ofNat', Nat.reducePow]
  omega
theorem beN_beB4 (v : Nat) (h : v < 4294967296) : beN (beB v 4) = v := by
  simp only [beN, beB, List.foldl_cons, List.foldl_nil, UInt8.toNat_ofNat', Nat.reducePow]
  omega
theorem isN_goodL {s : List UInt8} (h : isN s = true) : goodL (lbs s) ∧ szL (lbs s) ≤ 254 ∧ jn (lbs s) = s := by
  refine ⟨?_, ?_, (unp_isN s h).2⟩
  · unfold isN lbs at *
    by_cases h0 : s = []
    · rw [if_pos h0]; intro x hx; simp at hx
    · rw [if_neg h0]
      simp only [h0, decide_false, Bool.false_or, Bool.and_eq_true, decide_eq_true_eq, List.all_eq_true] at h
      intro x hx
      have h3 := h.2 x hx
      simp only [okL, Bool.and_eq_true, decide_eq_true_eq] at h3
      exact ⟨spl_dots s x hx, h3.1, h3.2⟩
  · unfold isN lbs at *
    by_cases h0 : s = []
    · rw [if_pos h0]; simp [szL]
    · rw [if_neg h0]
      simp only [h0, decide_false, Bool.false_or, Bool.and_eq_true, decide_eq_true_eq] at h
      rw [szL_spl]; omega
theorem unp_at {s : List UInt8} (h : isN s = true) (P S : List UInt8) (bg : Nat) : unp (P ++ pk (lbs s) ++ S) P.length bg (-1) [] = (lbs s, (((P ++ pk (lbs s)).length : Nat) : Int), 0) := by
  obtain ⟨h1, h2, _⟩ := isN_goodL h
  generalize lbs s = L at h1 h2 ⊢
  have e : P ++ pk L ++ S = P ++ pkl L ++ (0 :: S) := by unfold pk; simp
  rw [e, unp_run L [] P (0 :: S) bg (-1) h1 (by have : szL [] = 0 := rfl; omega)]
  have hl : (P ++ pkl L).length < (P ++ pkl L ++ 0 :: S).length := by simp
  have h0 : ((P ++ pkl L ++ 0 :: S)[(P ++ pkl L).length]'hl) = 0 := by
    rw [List.getElem_append_right (Nat.le_refl _)]; simp
  rw [unp_end _ _ _ _ _ hl (by rw [h0]; rfl), if_pos (by omega)]
  simp [pk]
  omega
theorem rd_ok (l : List UInt8) (m : Nat) (h : m ≤ l.length) : rdN l 0 m = (l.take m, l.drop m, 0) := by
  unfold rdN; rw [if_neg (by omega), Int.toNat_natCast]
theorem rb2 (w : World) (b : Nat) (X S : List UInt8) (h : IsR w b (X ++ S) 0) (hl : X.length = 2) :
    Calls Tryd.prog 26 #[.pointer (some ⟨b, 0, none⟩)] w fun e w' => e = .returned (.int .i64 (beN X)) ∧ IsR w' b S 0 ∧ w.grownBy w' (some b) := by
  have := rtwo_rd w b (X ++ S) 0 h (.inl rfl)
  rw [show rdN (X ++ S) 0 2 = ((X ++ S).take 2, (X ++ S).drop 2, 0) from rd_ok _ 2 (by rw [List.length_append]; omega)] at this
  rw [show (X ++ S).take 2 = X by rw [← hl]; exact List.take_left .., show (X ++ S).drop 2 = S by rw [← hl]; exact List.drop_left ..] at this
  exact this
set_option maxHeartbeats 400000 in
theorem rb4 (w : World) (b : Nat) (X S : List UInt8) (h : IsR w b (X ++ S) 0) (hl : X.length = 4) :
    Calls Tryd.prog 27 #[.pointer (some ⟨b, 0, none⟩)] w fun e w' => e = .returned (.int .u32 (beN X)) ∧ IsR w' b S 0 ∧ w.grownBy w' (some b) := by
  have hn := rnumber w b (X ++ S) 0 4 h (.inl rfl) (by omega)
  rw [show rdN (X ++ S) 0 (4 : Nat) = ((X ++ S).take 4, (X ++ S).drop 4, 0) from rd_ok _ 4 (by rw [List.length_append]; omega)] at hn
  rw [show (X ++ S).take 4 = X by rw [← hl]; exact List.take_left .., show (X ++ S).drop 4 = S by rw [← hl]; exact List.drop_left ..] at hn
  have HN := Lib.hid hn
  clear hn
  go_enter Tryd.func27, Tryd.ntmps27
  go_wp2_with fail
  refine HN.out.mono ?_
  rintro e w1 ⟨rfl, h1, h2⟩
  go_wp2
  go_ret
  exact ⟨rfl, h1, h2⟩
theorem rbraw (w : World) (b : Nat) (X S : List UInt8) (m : Int) (h : IsR w b (X ++ S) 0) (hl : m = X.length) :
    Calls Tryd.prog 32 #[.pointer (some ⟨b, 0, none⟩), .int .i64 m] w fun e w' => ∃ A' c', e = .returned (.slice A' X.length c') ∧ w'.ownsRow w.heap.size 5 1 (.slice A' X.length c') X.length (Lib.byteCells X) ∧ IsR w' b S 0 ∧ w.grownBy w' (some b) := by
  subst hl
  have := rraw w b (X ++ S) 0 X.length h (.inl rfl)
  rw [show rdN (X ++ S) 0 (X.length : Nat) = ((X ++ S).take X.length, (X ++ S).drop X.length, 0) from rd_ok _ _ (by rw [List.length_append]; omega)] at this
  rw [List.take_left, List.drop_left] at this
  refine this.mono ?_
  rintro e w' ⟨v, rfl, own, h1, h2⟩
  obtain ⟨A', c', rfl⟩ := own_slice own
  exact ⟨A', c', rfl, own, h1, h2⟩
-- a call that leaves all but two old blocks
structure K2 (w w' : World) (x y : Nat) : Prop where
  os : w'.os = w.os
  tape : w'.tape = w.tape
  output : w'.output = w.output
  size : w.heap.size ≤ w'.heap.size
  block : ∀ k, k < w.heap.size → k ≠ x → k ≠ y → w'.heap[k]? = w.heap[k]?
theorem K2.rf (w : World) (x y : Nat) : K2 w w x y := ⟨rfl, rfl, rfl, Nat.le_refl _, fun _ _ _ _ => rfl⟩
theorem K2.trans {a b c : World} {x y : Nat} (h : K2 a b x y) (k : K2 b c x y) : K2 a c x y :=
  ⟨k.os.trans h.os, k.tape.trans h.tape, k.output.trans h.output, Nat.le_trans h.size k.size, fun i hi h1 h2 => (k.block i (Nat.lt_of_lt_of_le hi h.size) h1 h2).trans (h.block i hi h1 h2)⟩
theorem K2.of {a b : World} {x y : Nat} (h : Below a.heap.size a b) : K2 a b x y := ⟨h.os, h.tape, h.output, h.size, fun i hi _ _ => h.block i hi⟩
theorem K2.blk {w w' : World} {x y g : Nat} {t : TypeId} {cs : Array Value} (h : K2 w w' x y) (hb : Blk w g t cs) (h1 : g ≠ x) (h2 : g ≠ y) : Blk w' g t cs := (h.block g hb.lt h1 h2).trans hb
end Go.Proofs.YtpfkmmmlocmakaaDoor
