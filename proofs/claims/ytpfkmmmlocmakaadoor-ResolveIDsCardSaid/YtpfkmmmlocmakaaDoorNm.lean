/-
  Names: small letters for capital ones, and which two names are one.
-/
import Derived.Test.YtpfkmmmlocmakaaDoorW
set_option linter.unusedVariables false
namespace Go.Proofs.YtpfkmmmlocmakaaDoor
open Go.RowKit

def lowN (c : Nat) : Nat := if 65 ≤ c ∧ c ≤ 90 then c + 32 else c
set_option maxHeartbeats 400000 in
theorem lowerC (c : Nat) (w : World) (h : c ≤ 255) : Calls Tryd.prog 34 #[.int .u8 c] w fun e w' => e = .returned (.int .u8 (lowN c : Nat)) ∧ w' = w := by
  have h1 : (c : Int) ≤ 255 := by omega
  by_cases h0 : 65 ≤ c
  · by_cases h2 : c ≤ 90
    · have HL : Hid ((c : Int) + 97 - 65 = (lowN c : Nat)) := by show _ = _; unfold lowN; rw [if_pos ⟨h0, h2⟩]; omega
      have i1 : (65 : Int) ≤ c := by omega
      have i2 : (c : Int) ≤ 90 := by omega
      clear h0 h2 h h1
      go_enter Tryd.func34, Tryd.ntmps34
      go_wp2
      go_ret
      exact ⟨ret_int (by rw [← HL.out]), rfl⟩
    · have HL : Hid ((c : Int) = (lowN c : Nat)) := by show _ = _; unfold lowN; rw [if_neg (by omega)]
      have i1 : (65 : Int) ≤ c := by omega
      have i2 : ¬ (c : Int) ≤ 90 := by omega
      clear h0 h2 h
      go_enter Tryd.func34, Tryd.ntmps34
      go_wp2
      go_ret
      exact ⟨ret_int HL.out, rfl⟩
  · have HL : Hid ((c : Int) = (lowN c : Nat)) := by show _ = _; unfold lowN; rw [if_neg (by omega)]
    have i1 : ¬ (65 : Int) ≤ c := by omega
    clear h0 h
    go_enter Tryd.func34, Tryd.ntmps34
    go_wp2
    go_ret
    exact ⟨ret_int HL.out, rfl⟩
def low (s : ByteArray) : List Nat := s.data.toList.map fun c => lowN c.toNat
theorem low_len (s : ByteArray) : (low s).length = s.size := by simp [low, Array.length_toList]
theorem low_get (s : ByteArray) (k : Nat) (h : k < s.size) : (low s)[k]'(by rw [low_len]; exact h) = lowN s[k].toNat := by simp [low]; rfl
theorem lowN_le (c : Nat) (h : c ≤ 255) : lowN c ≤ 255 := by unfold lowN; split <;> omega
set_option maxHeartbeats 800000 in
theorem sameC (a b : ByteArray) (w : World) (ha : a.size ≤ 1099511627776) (hb : b.size ≤ 1099511627776) :
    Calls Tryd.prog 14 #[.string a, .string b] w fun e w' => e = .returned (.bool (low a == low b)) ∧ ∃ n, w' = w.drewN n := by
  by_cases hlen : a.size = b.size
  · have hq : ((a.size : Int) != (b.size : Int)) = false := by rw [bne_eq_false_iff_eq]; omega
    have HL := Lib.hid hlen
    have hle1 : a.size ≤ b.size := by omega
    clear hlen
    go_enter Tryd.func14, Tryd.ntmps14
    go_wp2
    go_loopw [13] (fun i wr => ∃ k n : Nat, k ≤ a.size ∧ i = .int .i64 k ∧ wr = w.drewN n ∧ Hid (∀ j, (h1 : j < a.size) → (h2 : j < b.size) → j < k → lowN a[j].toNat = lowN b[j].toNat)) (fun i _ => a.size - (intOf i).toNat)
    case atStart => exact ⟨0, 0, by omega, rfl, rfl, fun j _ _ h => absurd h (by omega)⟩
    case round =>
      obtain ⟨k, n, hk, rfl, rfl, HK⟩ := hrel
      by_cases hlt : k < a.size
      · have hlt2 : k < b.size := by omega
        have k0 : (0 : Int) ≤ k := by omega
        have k1 : (k : Int) < a.size := by omega
        have k2 : (k : Int) < b.size := by omega
        have b1 := a[k].toNat_lt
        have b2 := b[k].toNat_lt
        by_cases he : lowN a[k].toNat = lowN b[k].toNat
        · have hne : ((lowN a[k].toNat : Int) != (lowN b[k].toNat : Int)) = false := by rw [he]; simp
          have HE := Lib.hid he; clear he
          go_wp2_with fail
          go_quiet ((go_at_call 34; first | exact Calls.quiet_of_same (lowerC _ _ (by omega)) | exact quiet_add_same (lowerC _ _ (by omega))))
          go_wp2
          go_roundw
          case rel => exact ⟨k + 1, _, by omega, by go_num, rfl, fun j h1 h2 hj => by
            by_cases hj' : j < k
            · exact HK.out j h1 h2 hj'
            · obtain rfl : j = k := by omega
              exact HE.out⟩
          case measure => simp [intOf]; omega
        · have hne : ((lowN a[k].toNat : Int) != (lowN b[k].toNat : Int)) = true := by rw [bne_iff_ne]; intro h; exact he (by omega)
          have HE := Lib.hid he; clear he
          go_wp2_with fail
          go_quiet ((go_at_call 34; first | exact Calls.quiet_of_same (lowerC _ _ (by omega)) | exact quiet_add_same (lowerC _ _ (by omega))))
          go_wp2
          go_ret
          refine ⟨ret_bool ?_, _, World.drewN_drewN _ _ _⟩
          rw [eq_comm, beq_eq_false_iff_ne]
          intro h
          apply HE.out
          rw [← low_get a k hlt, ← low_get b k hlt2]
          simp [h]
      · go_wp2
        go_ret
        refine ⟨ret_bool ?_, _, rfl⟩
        rw [eq_comm, beq_iff_eq]
        exact List.ext_getElem (by rw [low_len, low_len, HL.out]) (fun j h1 h2 => by
          rw [low_len] at h1 h2
          rw [low_get a j h1, low_get b j h2]
          exact HK.out j h1 h2 (by omega))
  · have hq : ((a.size : Int) != (b.size : Int)) = true := by rw [bne_iff_ne]; omega
    have HL := Lib.hid hlen
    clear hlen
    go_enter Tryd.func14, Tryd.ntmps14
    go_wp2
    go_ret
    exact ⟨ret_bool (by rw [eq_comm, beq_eq_false_iff_ne]; intro h; apply HL.out; rw [← low_len, ← low_len, h]), 0, rfl⟩
end Go.Proofs.YtpfkmmmlocmakaaDoor
