/-
  The reference's Get4: four bytes as a number.
-/
import Derived.Test.YtjkmkafceeblpaaGetB
import Derived.Laws.BitsLemmas
set_option linter.unusedVariables false
namespace Go.Proofs.Ytjkmkafceeblpaa
open Go.RowKit

theorem take4 (l : List UInt8) (k : Nat) (h : k + 3 < l.length) : (beN ((l.drop k).take 4) : Int) = (l[k].toNat : Int) * 16777216 + (l[k + 1].toNat : Int) * 65536 + (l[k + 2].toNat : Int) * 256 + (l[k + 3].toNat : Int) := by
  have e : (l.drop k).take 4 = [l[k], l[k + 1], l[k + 2], l[k + 3]] := by
    rw [List.drop_eq_getElem_cons (i := k) (by omega), List.drop_eq_getElem_cons (i := k + 1) (by omega), List.drop_eq_getElem_cons (i := k + 2) (by omega), List.drop_eq_getElem_cons (i := k + 3) h]; rfl
  rw [e]; simp [beN]; omega
theorem wraps_u32 (n : Int) (h₀ : 0 ≤ n) (h₁ : n < 2 ^ 32) : IntKind.u32.wrap n = n := by rw [IntKind.wrap_u32]; omega
theorem or4 (a b c d : Int) (a0 : 0 ≤ a) (a1 : a < 256) (b0 : 0 ≤ b) (b1 : b < 256) (c0 : 0 ≤ c) (c1 : c < 256) (d0 : 0 ≤ d) (d1 : d < 256) :
    bits .or .u32 (bits .or .u32 (bits .or .u32 (a * 16777216) (b * 65536)) (c * 256)) d = a * 16777216 + b * 65536 + c * 256 + d := by
  rw [bits_join .u32 32 (by decide) wraps_u32 24 (a * 16777216) (b * 65536) (by omega) (by omega) (by omega) (by omega) (by omega) (by omega)]
  rw [bits_join .u32 32 (by decide) wraps_u32 16 (a * 16777216 + b * 65536) (c * 256) (by omega) (by omega) (by omega) (by omega) (by omega) (by omega)]
  rw [bits_join .u32 32 (by decide) wraps_u32 8 (a * 16777216 + b * 65536 + c * 256) d (by omega) (by omega) (by omega) (by omega) (by omega) (by omega)]
set_option maxHeartbeats 1600000 in
theorem get4 (w : World) (A : Option Addr) (l : List UInt8) (n c : Nat) (k : Nat) (x : Int) (h : Bytes w A l) (hx : x = k) (hn : n = l.length) (hk : k + 3 < l.length) (hl : l.length ≤ 1099511627776) :
    Calls Try.prog 31 #[.slice A n c, .int .i64 x] w fun e w' => e = .returned (.int .u32 (beN ((l.drop k).take 4))) ∧ ∃ m, w' = w.drewN m := by
  subst hx hn
  obtain ⟨ad, rfl, _, hc1⟩ := h.at_ (show k < l.length by omega)
  obtain ⟨bd, hbd, _, hc2⟩ := h.at_ (show k + 1 < l.length by omega)
  injection hbd with hbd; subst hbd
  obtain ⟨bd, hbd, _, hc3⟩ := h.at_ (show k + 2 < l.length by omega)
  injection hbd with hbd; subst hbd
  obtain ⟨bd, hbd, _, hc4⟩ := h.at_ hk
  injection hbd with hbd; subst hbd
  have k0 : (0 : Int) ≤ k := by omega
  have k1 : (k : Int) < l.length := by omega
  have k2 : (k : Int) + 1 < l.length := by omega
  have k3 : (k : Int) + 2 < l.length := by omega
  have k4 : (k : Int) + 3 < l.length := by omega
  have b1 := l[k].toNat_lt
  have b2 := (l[k + 1]'(by omega)).toNat_lt
  have b3 := (l[k + 2]'(by omega)).toNat_lt
  have b4 := (l[k + 3]'hk).toNat_lt
  have T := take4 l k hk
  generalize (beN ((l.drop k).take 4) : Int) = res at T ⊢
  generalize l[k].toNat = x1 at *
  generalize (l[k + 1]'(by omega)).toNat = x2 at *
  generalize (l[k + 2]'(by omega)).toNat = x3 at *
  generalize (l[k + 3]'hk).toNat = x4 at *
  have HT := Lib.hid T; clear T
  have hc2' : w.cell? ⟨ad.block, ad.off + (k + 1), none⟩ = some (.int .u8 x2) := by rw [← hc2, Addr.add, if_neg (by omega)]
  have hc3' : w.cell? ⟨ad.block, ad.off + (k + 2), none⟩ = some (.int .u8 x3) := by rw [← hc3, Addr.add, if_neg (by omega)]
  have hc4' : w.cell? ⟨ad.block, ad.off + (k + 3), none⟩ = some (.int .u8 x4) := by rw [← hc4, Addr.add, if_neg (by omega)]
  go_enter Try.func31, Try.ntmps31
  go_wp2
  have w1 : IntKind.i64.wrap ((k : Int) + 1) = k + 1 := IntWalk.i64_in _ (by omega)
  have w2 : (0 : Int) ≤ (k : Int) + 1 := by omega
  have w3 : ((k : Int) + 1).toNat = k + 1 := by omega
  have w1b : IntKind.i64.wrap ((k : Int) + 2) = k + 2 := IntWalk.i64_in _ (by omega)
  have w2b : (0 : Int) ≤ (k : Int) + 2 := by omega
  have w3b : ((k : Int) + 2).toNat = k + 2 := by omega
  have w1c : IntKind.i64.wrap ((k : Int) + 3) = k + 3 := IntWalk.i64_in _ (by omega)
  have w2c : (0 : Int) ≤ (k : Int) + 3 := by omega
  have w3c : ((k : Int) + 3).toNat = k + 3 := by omega
  have w4 : IntKind.u32.wrap (x1 : Int) = x1 := wraps_u32 _ (by omega) (by omega)
  have w5 : IntKind.u32.wrap (x2 : Int) = x2 := wraps_u32 _ (by omega) (by omega)
  have w6 : IntKind.u32.wrap (x3 : Int) = x3 := wraps_u32 _ (by omega) (by omega)
  have w7 : IntKind.u32.wrap (x4 : Int) = x4 := wraps_u32 _ (by omega) (by omega)
  have w8 : IntKind.u32.wrap ((x1 : Int) * 16777216) = x1 * 16777216 := wraps_u32 _ (by omega) (by omega)
  have w9 : IntKind.u32.wrap ((x2 : Int) * 65536) = x2 * 65536 := wraps_u32 _ (by omega) (by omega)
  have w10 : IntKind.u32.wrap ((x3 : Int) * 256) = x3 * 256 := wraps_u32 _ (by omega) (by omega)
  go_quiet (fail)
  clear w1 w2 w3 w4 w5 w6 w7 w8 w9 w10 w1b w2b w3b w1c w2c w3c
  go_wp2
  go_ret
  refine ⟨ret_int ?_, _, rfl⟩
  rw [HT.out, or4 _ _ _ _ (by omega) (by omega) (by omega) (by omega) (by omega) (by omega) (by omega) (by omega)]
end Go.Proofs.Ytjkmkafceeblpaa
