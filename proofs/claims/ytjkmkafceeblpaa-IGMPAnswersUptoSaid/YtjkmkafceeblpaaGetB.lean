/-
  The reference's Get2.
-/
import Derived.Test.YtjkmkafceeblpaaOctRdB
set_option linter.unusedVariables false
namespace Go.Proofs.Ytjkmkafceeblpaa
open Go.RowKit

theorem i64_or_nat (a b : Nat) (h : a ||| b < 9223372036854775808) (ha : a < 9223372036854775808) (hb : b < 9223372036854775808) : bits .or .i64 (a : Int) (b : Int) = ((a ||| b : Nat) : Int) := by
  show IntKind.i64.wrap ((BitVec.ofInt 64 (a : Int) ||| BitVec.ofInt 64 (b : Int)).toNat : Int) = _
  rw [BitVec.toNat_or, ofInt_u64 a (by omega), ofInt_u64 b (by omega)]
  exact IntWalk.i64_in _ (by omega)
theorem or_byte64 (v b : Int) (h0 : 0 ≤ v) (h1 : v < 1099511627776) (h2 : 0 ≤ b) (h3 : b < 256) : bits .or .i64 (v * 256) b = v * 256 + b := by
  obtain ⟨v, rfl⟩ : ∃ k : Nat, v = k := ⟨v.toNat, by omega⟩
  obtain ⟨b, rfl⟩ : ∃ k : Nat, b = k := ⟨b.toNat, by omega⟩
  have e := nat_join 8 (v * 256) b (by omega) (by omega)
  rw [show (v : Int) * 256 = ((v * 256 : Nat) : Int) by omega, i64_or_nat _ _ (by rw [e]; omega) (by omega) (by omega), e]
  omega
theorem take2 (l : List UInt8) (k : Nat) (h : k + 1 < l.length) : (beN ((l.drop k).take 2) : Int) = (l[k].toNat : Int) * 256 + (l[k + 1].toNat : Int) := by
  have e : (l.drop k).take 2 = [l[k], l[k + 1]] := by
    rw [List.drop_eq_getElem_cons (i := k) (by omega), List.drop_eq_getElem_cons (i := k + 1) h]; rfl
  rw [e]; simp [beN]
theorem rd_ok (l : List UInt8) (m : Nat) (h : m ≤ l.length) : rdN l 0 m = (l.take m, l.drop m, 0) := by
  unfold rdN; rw [if_neg (by omega), Int.toNat_natCast]
theorem rd_bad (l : List UInt8) (e m : Int) (h : e = 2 ∨ m < 0 ∨ (l.length : Int) < m) : rdN l e m = ([], [], 2) := if_pos h
end Go.Proofs.Ytjkmkafceeblpaa
