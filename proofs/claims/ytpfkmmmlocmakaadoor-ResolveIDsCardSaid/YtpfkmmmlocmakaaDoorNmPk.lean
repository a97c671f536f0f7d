/-
  Names: the program's Pack.
-/
import Derived.Test.YtpfkmmmlocmakaaDoorNmL
set_option linter.unusedVariables false
namespace Go.Proofs.YtpfkmmmlocmakaaDoor
open Go.RowKit

theorem nm_byte (w : World) {B : Nat} (b : Nat) (l : List UInt8) (v : Int) (h : IsW w B b l) (hv0 : 0 ≤ v) (hv1 : v ≤ 4294967295) (hl : l.length ≤ 1099511627776) (hBw : B ≤ w.heap.size) :
    Calls Tryd.prog 46 #[.pointer (some ⟨b, 0, none⟩), .int .i64 v] w fun e w' => e = .returned (.tuple #[]) ∧ IsW w' B b (l ++ beB v.toNat 1) ∧ Below B w w' := by
  go_enter Tryd.func46, Tryd.ntmps46
  go_wp2_with fail
  refine (wlay _ _ l v 1 h hv0 hv1 (by omega) hl hBw).mono ?_
  rintro e w1 ⟨rfl, h1, h2⟩
  go_wp2
  go_end0
  exact ⟨rfl, h1, h2⟩
theorem beB_one (n : Nat) (h : n ≤ 255) : beB n 1 = [UInt8.ofNat n] := by
  have e : n / 256 ^ 0 % 256 = n := by simp only [Nat.reducePow]; omega
  simp only [beB, e]
theorem conv_bytes (w : World) (x : ByteArray) (cp : Nat) (fr : Nat × Nat) : Bytes (w.alloc (.cells (bytesRow x cp) 5 fr)) (some ⟨w.heap.size, 0, none⟩) x.data.toList := by
  refine ⟨by rw [byteCells_len, Nat.mul_one], fun _ => ⟨_, rfl, by simp, fun j u hu => ?_⟩⟩
  have hj : j < x.data.toList.length := by rw [← byteCells_len]; exact (List.getElem?_eq_some_iff.1 hu).1
  rw [byteCells_at _ j hj] at hu
  rw [Addr.add_mid, Nat.zero_add, World.cell?_alloc_mark]
  have hj2 : j < x.size := by rw [← str_len]; exact hj
  unfold bytesRow
  have hz : j < x.data.size := hj2
  rw [Array.getElem?_append_left (by simpa using hj2), ← hu, Array.getElem?_map, Array.getElem?_eq_getElem hz]
  rfl
theorem szL_append (a b : List (List UInt8)) : szL (a ++ b) = szL a + szL b := by simp [szL]
def PackP (s : List UInt8) (w : World) (e : Ending) (w' : World) : Prop :=
  (isN s = true ∧ ∃ A c, e = .returned (.tuple #[.slice A (pk (lbs s)).length c, .int .i64 0]) ∧ w'.ownsRow w.heap.size 5 1 (.slice A (pk (lbs s)).length c) (pk (lbs s)).length (Lib.byteCells (pk (lbs s))) ∧ Below w.heap.size w w') ∨
  (isN s = false ∧ e = .returned (.tuple #[.slice none 0 0, .int .i64 9]) ∧ Below w.heap.size w w')
theorem pkl_take (L : List (List UInt8)) (k : Nat) (hk : k < L.length) (h : L[k].length ≤ 255) : pkl (L.take k) ++ beB L[k].length 1 ++ L[k] = pkl (L.take (k + 1)) := by
  rw [List.take_add_one, List.getElem?_eq_getElem hk]
  rw [show (some L[k]).toList = [L[k]] from rfl, pkl_app, beB_one _ h]
  simp
set_option maxHeartbeats 1600000 in
theorem packC (s : ByteArray) (w : World) (hs : s.size ≤ 1000000) (hm : MaxL w) : Calls Tryd.prog 19 #[.string s] w (PackP s.data.toList w) := by
  go_enter Tryd.func19, Tryd.ntmps19
  go_wp2_with fail
  refine (labelsC s w hs hm).mono ?_
  rintro e w1 (⟨hN, v, rfl, own, b1⟩ | ⟨hN, rfl, b1⟩)
  · obtain ⟨L, hL⟩ : ∃ L, lbs s.data.toList = L := ⟨_, rfl⟩
    have hszL : szL L ≤ 254 ∧ ∀ x ∈ L, x.length ≤ 63 := by
      rw [← hL]
      unfold isN at hN
      unfold lbs
      by_cases h0 : s.data.toList = []
      · rw [if_pos h0]; exact ⟨by simp [szL], by simp⟩
      · rw [if_neg h0]
        simp only [h0, decide_false, Bool.false_or, Bool.and_eq_true, decide_eq_true_eq, List.all_eq_true] at hN
        refine ⟨by rw [szL_spl]; omega, fun x hx => ?_⟩
        have := hN.2 x hx
        simp only [okL, Bool.and_eq_true, decide_eq_true_eq] at this
        exact this.2
    rw [hL] at own
    have HSL := Lib.hid hszL
    have HN := Lib.hid hN
    have HLL := Lib.hid hL
    have hlen : L.length ≤ 254 := Nat.le_trans (len_szL L) hszL.1
    clear hszL hN hL
    obtain ⟨A0, c0, rfl⟩ := own_slice own
    have OWN := Lib.hid own; clear own
    have W0 := Lib.hid (IsW.new w1 rfl (Nat.le_refl _))
    go_wp2
    have B2 := Lib.hid (al (rf w1) (.cells #[.slice none 0 0] 93))
    have hz : w1.heap.size ≤ (w1.alloc (.cells #[.slice none 0 0] 93)).heap.size := by simp
    generalize w1.alloc (.cells #[.slice none 0 0] 93) = w2 at W0 B2 hz ⊢
    go_loopw [18] (fun i wr => ∃ k : Nat, k ≤ L.length ∧ i = .int .i64 k ∧ IsW wr w1.heap.size w1.heap.size (pkl (L.take k)) ∧ Below w1.heap.size w1 wr) (fun i _ => L.length - (intOf i).toNat)
    case atStart => exact ⟨0, by omega, rfl, by simpa [pkl] using W0.out, B2.out⟩
    case round =>
      obtain ⟨k, hk, rfl, hW, bel⟩ := hrel
      have hlp : (pkl (L.take k)).length ≤ 254 := by
        rw [pkl_len]
        have h1 : szL (L.take k) ≤ szL L := by
          have h2 := szL_append (L.take k) (L.drop k)
          rw [List.take_append_drop] at h2; omega
        exact Nat.le_trans h1 HSL.out.1
      have HW := Lib.hid hW; clear hW
      by_cases hlt : k < L.length
      · obtain ⟨g, cap, hv, _⟩ := World.ownsRow.form OWN.out (by omega)
        injection hv with hA hn hcc
        subst hA hcc
        clear hn
        have hc := World.ownsRow.cells (g := g) (own_nx OWN.out bel) rfl k _ (strs_at L k hlt)
        rw [Addr.add_mid, Nat.zero_add] at hc
        have k0 : (0 : Int) ≤ k := by omega
        have k1 : (k : Int) < L.length := by omega
        have hsz : (⟨L[k].toArray⟩ : ByteArray).size = L[k].length := rfl
        have hdl : (⟨L[k].toArray⟩ : ByteArray).data.toList = L[k] := by simp
        have h63 : L[k].length ≤ 63 := HSL.out.2 _ (List.getElem_mem hlt)
        have HPT := Lib.hid (pkl_take L k hlt (by omega))
        generalize hx : (⟨L[k].toArray⟩ : ByteArray) = x at hc hsz hdl
        generalize L[k] = X at HPT hsz hdl h63
        have HSX := Lib.hid hsz
        have HDL := Lib.hid hdl
        have hx63 : x.size ≤ 63 := by omega
        clear hx hsz hdl
        go_wp2_with fail
        refine (nm_byte _ _ _ (x.size : Int) HW.out (by omega) (by omega) (by omega) bel.size).mono ?_
        rintro e w3 ⟨rfl, hW3, b3⟩
        have HW3 := Lib.hid hW3; clear hW3
        have B3 := Lib.hid (bel.trans b3)
        have hconv := run_bytes_of_string (P := Tryd.prog) w3 9 34 5 x Tryd.underlying9 Tryd.underlying34 Tryd.underlying5
        generalize grownCap w3 x.size 0 5 = cp at hconv
        clear hc
        have BYC : Hid (Bytes (w3.alloc (.cells (bytesRow x cp) 5 ((bytesRow x cp).size, (bytesRow x cp).size + 1))).drew (some ⟨w3.heap.size, 0, none⟩) X) := by
          have := conv_bytes w3 x cp ((bytesRow x cp).size, (bytesRow x cp).size + 1)
          rw [HDL.out] at this
          exact this
        have B3a : Hid (Below w3.heap.size w3 (w3.alloc (.cells (bytesRow x cp) 5 ((bytesRow x cp).size, (bytesRow x cp).size + 1))).drew) := (al (rf w3) _).drew
        have HW4 := Lib.hid (HW3.out.nx B3a.out)
        have z3 : w1.heap.size ≤ (w3.alloc (.cells (bytesRow x cp) 5 ((bytesRow x cp).size, (bytesRow x cp).size + 1))).drew.heap.size := (nx B3.out B3a.out).size
        go_wp2_with fail
        refine (wraw _ _ _ X _ x.size cp HW4.out BYC.out HSX.out (by rw [List.length_append, beB_len]; omega) z3).mono ?_
        rintro e w5 ⟨rfl, hW5, b5⟩
        rw [HSX.out, Int.toNat_natCast, HPT.out] at hW5
        have B5 := Lib.hid ((nx B3.out B3a.out).trans b5)
        clear z3 b5 b3
        go_wp2
        go_roundw
        case rel => exact ⟨k + 1, by omega, by go_num, hW5, B5.out⟩
        case measure => simp [intOf]; omega
      · obtain rfl : k = L.length := by omega
        go_wp2_with fail
        refine (nm_byte _ _ _ 0 HW.out (by omega) (by omega) (by omega) bel.size).mono ?_
        rintro e w3 ⟨rfl, hW3, b3⟩
        have e3 : pkl (L.take L.length) ++ beB (0 : Int).toNat 1 = pk L := by rw [List.take_length]; rfl
        rw [e3] at hW3
        clear e3
        have hpl : (pk L).length ≤ 300 := by unfold pk; rw [List.length_append]; rw [List.take_length] at hlp; simp; omega
        have B3 := Lib.hid (bel.trans b3)
        have HW3 := Lib.hid hW3; clear hW3
        go_wp2_with fail
        refine (wbytes _ _ _ HW3.out (by omega)).mono ?_
        rintro e w4 ⟨v, rfl, hr⟩
        obtain ⟨A4, n4, c4, rfl, hn4⟩ := hr.slice
        obtain rfl : n4 = (pk L).length := hn4.out
        have HR := Lib.hid hr; clear hr hn4
        go_wp2
        refine bodyPost_ret (results_tmp2 rfl _ _ _) rfl ?_
        refine .inl ⟨HN.out, A4, c4, by rw [HLL.out]; rfl, ?_, nx (nx b1 B3.out) HR.out.2⟩
        rw [HLL.out]
        exact own_base HR.out.1 (Nat.le_trans b1.size B3.out.size)
  · have HN := Lib.hid hN; clear hN
    go_wp2
    refine bodyPost_ret (results_tmp2 rfl _ _ _) rfl ?_
    exact .inr ⟨HN.out, rfl, b1⟩
end Go.Proofs.YtpfkmmmlocmakaaDoor
