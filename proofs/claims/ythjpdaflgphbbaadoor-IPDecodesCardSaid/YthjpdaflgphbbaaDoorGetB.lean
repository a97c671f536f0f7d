/-
  The reference's Get2.
-/
import Derived.Test.YthjpdaflgphbbaaDoorOctRdB
set_option linter.unusedVariables false
namespace Go.Proofs.YthjpdaflgphbbaaDoor
open Go.RowKit

theorem i64_or_nat (a b : Nat) (h : a ||| b < 9223372036854775808) (ha : a < 9223372036854775808) (hb : b < 9223372036854775808) : bits .or .i64 (a : Int) (b : Int) = ((a ||| b : Nat) : Int) := by
  show IntKind.i64.wrap ((BitVec.ofInt 64 (a : Int) ||| BitVec.ofInt 64 (b : Int)).toNat : Int) = _
  rw [BitVec.toNat_or, ofInt_u64 a (by omega), ofInt_u64 b (by omega)]
  exact IntWalk.i64_in _ (by omega)
theorem or_byte64 (v b : Int) (h0 : 0 ≤ v) (h1 : v < 1099511627776) (h2 : 0 ≤ b) (h3 : b < 256) : bits .or .i64 (v * 256) b = v * 256 + b := by
  obtain ⟨v, rfl⟩ : ∃ k : Nat, v = k := ⟨v.toNat, by omega⟩
  obtain ⟨b, rfl⟩ : ∃ k : Nat, b = k := ⟨b.toNat, by omega⟩
  have e := nat_join 8 (v * 256) b (by omega) (by omega)
  rw [show (v : Int) * 256 = ((v * 256 : Nat) : Int) by omega, i64_or_nat _ _ (by rw [e]; omega) (by omega) (by omega), e]
  omega
theorem take2 (l : List UInt8) (k : Nat) (h : k + 1 < l.length) : (beN ((l.drop k).take 2) : Int) = (l[k].toNat : Int) * 256 + (l[k + 1].toNat : Int) := by
  have e : (l.drop k).take 2 = [l[k], l[k + 1]] := by
    rw [List.drop_eq_getElem_cons (i := k) (by omega), List.drop_eq_getElem_cons (i := k + 1) h]; rfl
  rw [e]; simp [beN]
set_option maxHeartbeats 400000 in
theorem get2 (w : World) (A : Option Addr) (l : List UInt8) (n c : Nat) (k : Nat) (x : Int) (h : Bytes w A l) (hx : x = k) (hn : n = l.length) (hk : k + 1 < l.length) (hl : l.length ≤ 1099511627776) :
    Calls Tryd.prog 51 #[.slice A n c, .int .i64 x] w fun e w' => e = .returned (.int .i64 (beN ((l.drop k).take 2))) ∧ ∃ m, w' = w.drewN m := by
  subst hx hn
  obtain ⟨ad, rfl, _, hc1⟩ := h.at_ (show k < l.length by omega)
  obtain ⟨bd, hbd, _, hc2⟩ := h.at_ hk
  injection hbd with hbd
  subst hbd
  have k0 : (0 : Int) ≤ k := by omega
  have k1 : (k : Int) < l.length := by omega
  have k2 : (k : Int) + 1 < l.length := by omega
  have b1 := l[k].toNat_lt
  have b2 := (l[k + 1]'hk).toNat_lt
  have T := take2 l k hk
  generalize (beN ((l.drop k).take 2) : Int) = res at T ⊢
  generalize l[k].toNat = x1 at *
  generalize (l[k + 1]'hk).toNat = x2 at *
  have HT := Lib.hid T; clear T
  have hc3 : w.cell? ⟨ad.block, ad.off + (k + 1), none⟩ = some (.int .u8 x2) := by
    rw [← hc2, Addr.add, if_neg (by omega)]
  go_enter Tryd.func51, Tryd.ntmps51
  go_wp2
  have w1 : IntKind.i64.wrap ((k : Int) + 1) = k + 1 := IntWalk.i64_in _ (by omega)
  have w2 : (0 : Int) ≤ (k : Int) + 1 := by omega
  have w3 : ((k : Int) + 1).toNat = k + 1 := by omega
  have w4 : IntKind.i64.wrap (x1 : Int) = x1 := IntWalk.i64_in _ (by omega)
  have w5 : IntKind.i64.wrap (x2 : Int) = x2 := IntWalk.i64_in _ (by omega)
  have w6 : IntKind.i64.wrap ((x1 : Int) * 256) = x1 * 256 := IntWalk.i64_in _ (by omega)
  go_quiet (fail)
  clear w1 w2 w3 w4 w5 w6
  go_wp2
  go_ret
  refine ⟨ret_int ?_, _, rfl⟩
  rw [HT.out, or_byte64 _ _ (by omega) (by omega) (by omega) (by omega)]

theorem rd_ok (l : List UInt8) (m : Nat) (h : m ≤ l.length) : rdN l 0 m = (l.take m, l.drop m, 0) := by
  unfold rdN; rw [if_neg (by omega), Int.toNat_natCast]
theorem rd_bad (l : List UInt8) (e m : Int) (h : e = 2 ∨ m < 0 ∨ (l.length : Int) < m) : rdN l e m = ([], [], 2) := if_pos h
end Go.Proofs.YthjpdaflgphbbaaDoor
