/-
  IP: the law's known packet and address; an address's text is read as it.
-/
import Derived.Test.YthjpdaflgphbbaaDoorIpEn
import Derived.Test.YthjpdaflgphbbaaDoorIpP
set_option linter.unusedVariables false
namespace Go.Proofs.YthjpdaflgphbbaaDoor
open Go.RowKit

theorem spl_plain : ∀ x : List UInt8, (46 : UInt8) ∉ x → spl x = [x]
  | [], _ => rfl
  | c :: r, h => by
    have hc : c ≠ 46 := fun e => h (by simp [e])
    have hr : (46 : UInt8) ∉ r := fun e => h (by simp [e])
    rw [spl_char c r r [] hc (spl_plain r hr)]
theorem spl_app : ∀ (x r : List UInt8), (46 : UInt8) ∉ x → spl (x ++ 46 :: r) = x :: spl r
  | [], r, _ => spl_dot r
  | c :: x, r, h => by
    have hc : c ≠ 46 := fun e => h (by simp [e])
    have hx : (46 : UInt8) ∉ x := fun e => h (by simp [e])
    rw [List.cons_append, spl_char c (x ++ 46 :: r) x (spl r) hc (spl_app x r hx)]
theorem dd_dots : ∀ n, n < 256 → (46 : UInt8) ∉ dd n := by decide +kernel
theorem dec_dots {n : Nat} (h : n < 256) : (46 : UInt8) ∉ Lib.decDigits n := by rw [dec_dd (by omega)]; exact dd_dots n h
theorem pc_dec {n : Nat} (h : n < 256) : pc (Lib.decDigits n) = some n := by rw [pc_ra, ra_iff]; exact ⟨by omega, rfl⟩
theorem parse_text (a : Nat) (h : a < 4294967296) : parseP (textP a) = some a := by
  have e : spl (textP a) = [Lib.decDigits (byt a 0), Lib.decDigits (byt a 1), Lib.decDigits (byt a 2), Lib.decDigits (byt a 3)] := by
    unfold textP
    rw [spl_app _ _ (dec_dots (byt_lt a 0)), spl_app _ _ (dec_dots (byt_lt a 1)), spl_app _ _ (dec_dots (byt_lt a 2)), spl_plain _ (dec_dots (byt_lt a 3))]
  unfold parseP
  rw [e]
  show pf _ 0 = some a
  rw [pf_good _ _ _ (pc_dec (byt_lt a 0)), pf_good _ _ _ (pc_dec (byt_lt a 1)), pf_good _ _ _ (pc_dec (byt_lt a 2)), pf_good _ _ _ (pc_dec (byt_lt a 3)), pf]
  unfold byt
  simp only [Nat.reducePow, Nat.reduceSub]
  congr 1; omega
theorem textP_len (a : Nat) : (textP a).length ≤ 15 := by
  have hl : ∀ k, (Lib.decDigits (byt a k)).length ≤ 3 := fun k => by
    rw [dec_dd (by have := byt_lt a k; omega)]; unfold dd; split
    · simp
    · split <;> simp
  have := hl 0; have := hl 1; have := hl 2; have := hl 3
  simp [textP]; omega
def kp : Pk := ⟨0, 1, true, false, 0, 64, 17, 167772161, 167772162, [], [171]⟩
theorem kp_may : mayI kp = 0 := by
  unfold mayI
  rw [if_neg (by decide), if_neg (by rw [show gd kp.op 0 = true from gd_end (by decide)]; decide), if_neg (by decide)]
theorem kp_len : (encP kp).length = 21 := by decide +kernel
theorem kp_10 : (encP kp)[10]? = some 38 := by decide +kernel
theorem kp_11 : (encP kp)[11]? = some 213 := by decide +kernel
theorem kp_parse : parseP [49, 48, 46, 48, 46, 48, 46, 49] = some 167772161 := by rw [← refP_parseP]; decide +kernel
theorem kp_text : textP 167772161 = [49, 48, 46, 48, 46, 48, 46, 49] := by
  unfold textP
  rw [dec_dd (by decide), dec_dd (by decide), dec_dd (by decide), dec_dd (by decide)]
  decide +kernel
set_option maxHeartbeats 1600000 in
theorem known (w : World) (hE : Env w) : Calls Tryd.prog 17 #[] w fun e w' => e = .returned (.bool true) ∧ Below w.heap.size w w' := by
  have HE := Lib.hid hE; clear hE
  have HP := Lib.hid (parseC ⟨#[49, 48, 46, 48, 46, 48, 46, 49]⟩ w HE.out (by decide))
  have e0 : (⟨#[49, 48, 46, 48, 46, 48, 46, 49]⟩ : ByteArray).data.toList = [49, 48, 46, 48, 46, 48, 46, 49] := rfl
  rw [e0, kp_parse, ParR_some] at HP
  clear e0
  go_enter Tryd.func17, Tryd.ntmps17
  go_wp2_with fail
  refine HP.out.mono ?_
  rintro e w1 ⟨rfl, b1⟩
  go_wp2_with fail
  refine (encC _ kp (.slice none 0 0) (.slice (some ⟨w1.heap.size, 0, none⟩) 1 1) ⟨⟨none, 0, rfl, Bytes.nil _ _, by decide⟩, ⟨some ⟨w1.heap.size, 0, none⟩, 1, rfl, blk_bytes (Blk.new _ 5 _) 0 [171] (fun i hi => by match i, hi with | 0, _ => rfl), by decide⟩, by unfold i64; decide, by decide, by decide, by decide, by decide⟩).mono ?_
  rintro e w2 (⟨hm, v, rfl, own, b2⟩ | ⟨hm, rfl, b2⟩)
  · have hl := kp_len
    rw [kp_len] at own
    obtain ⟨g, cap, rfl, _, hgl, hcap, _, cur, hbk, _, htk⟩ := own_form own (by omega)
    have k10 : w2.cell? ⟨g, 10, none⟩ = some (.int .u8 38) := by
      rw [take_cell hbk htk (by omega), Lib.byteCells, List.getElem?_map, kp_10]; rfl
    have k11 : w2.cell? ⟨g, 11, none⟩ = some (.int .u8 213) := by
      rw [take_cell hbk htk (by omega), Lib.byteCells, List.getElem?_map, kp_11]; rfl
    have B2 := Lib.hid (nx (al b1 (.cells #[.int .u8 171] 5)) b2)
    have HT := Lib.hid (textC 167772161 w2 (by decide) (HE.out.nx B2.out))
    rw [kp_text] at HT
    clear own hbk htk b2 hm hl
    go_wp2_with (go_at_call 18; refine HT.out.mono ?_; rintro e w3 ⟨rfl, b3⟩)
    go_ret
    exact ⟨rfl, nx B2.out b3⟩
  · exact absurd kp_may hm
end Go.Proofs.YthjpdaflgphbbaaDoor
