/-
  The laws' own helpers: two rows of bytes, a row with room behind it, and a row that is spoiled.
-/
import Derived.Test.YtgdlghieifadhaaOctW
set_option linter.unusedVariables false
namespace Go.Proofs.Ytgdlghieifadhaa
open Go.RowKit

theorem list_same {l m : List UInt8} (h : l.length = m.length) (hk : ∀ j, (h1 : j < l.length) → (h2 : j < m.length) → l[j] = m[j]) : (l == m) = true := by
  rw [beq_iff_eq]
  exact List.ext_getElem h hk
set_option maxHeartbeats 400000 in
theorem same_ (w : World) (A B : Option Addr) (l m : List UInt8) (n1 n2 c d : Nat) (ha : Bytes w A l) (hb : Bytes w B m) (hl : n1 = l.length) (hm : n2 = m.length) (h1 : l.length ≤ 1099511627776) (h2 : m.length ≤ 1099511627776) :
    Calls Try.prog 27 #[.slice A n1 c, .slice B n2 d] w fun e w' => e = .returned (.bool (l == m)) ∧ Below w.heap.size w w' := by
  subst hl hm
  by_cases hlen : l.length = m.length
  · have hq : ((l.length : Int) != (m.length : Int)) = false := by rw [bne_eq_false_iff_eq]; omega
    have HL := Lib.hid hlen
    have hle1 : l.length ≤ m.length := by omega
    have hle2 : m.length ≤ l.length := by omega
    clear hlen
    go_enter Try.func27, Try.ntmps27
    go_wp2
    go_loopw [5] (fun i wr => ∃ k n : Nat, k ≤ l.length ∧ i = .int .i64 k ∧ wr = w.drewN n ∧ Hid (∀ j, (h1 : j < l.length) → (h2 : j < m.length) → j < k → l[j] = m[j])) (fun i _ => l.length - (intOf i).toNat)
    case atStart => exact ⟨0, 0, by omega, rfl, rfl, fun j _ _ h => absurd h (by omega)⟩
    case round =>
      obtain ⟨k, n, hk, rfl, rfl, HK⟩ := hrel
      by_cases hlt : k < l.length
      · obtain ⟨ad, rfl, _, hc1⟩ := ha.at_ hlt
        obtain ⟨bd, rfl, _, hc2⟩ := hb.at_ (show k < m.length by omega)
        have k0 : (0 : Int) ≤ k := by omega
        have k1 : (k : Int) < l.length := by omega
        have k2 : (k : Int) < m.length := by omega
        by_cases he : l[k] = m[k]'(by omega)
        · have hb1 : ((l[k].toNat : Int) != ((m[k]'(by omega)).toNat : Int)) = false := by rw [he]; simp
          have HE := Lib.hid he; clear he
          go_wp2_with fail
          go_quiet (fail)
          go_wp2
          go_roundw
          case rel => exact ⟨k + 1, _, by omega, by go_num, rfl, fun j h1 h2 hj => by
            by_cases hj' : j < k
            · exact HK.out j h1 h2 hj'
            · obtain rfl : j = k := by omega
              exact HE.out⟩
          case measure => simp [intOf]; omega
        · have hb1 : ((l[k].toNat : Int) != ((m[k]'(by omega)).toNat : Int)) = true := by
            rw [bne_iff_ne]; intro h; exact he (UInt8.toNat_inj.1 (Int.ofNat.inj h))
          have HE := Lib.hid he; clear he
          go_wp2_with fail
          go_quiet (fail)
          go_wp2
          go_ret
          exact ⟨ret_bool (by rw [eq_comm, beq_eq_false_iff_ne]; intro h; exact HE.out (by simp [h])), dn (dn (rf w) _) _⟩
      · go_wp2
        go_ret
        exact ⟨ret_bool (list_same HL.out (fun j h1 h2 => HK.out j h1 h2 (by omega))).symm, dn (rf w) _⟩
  · have hq : ((l.length : Int) != (m.length : Int)) = true := by rw [bne_iff_ne]; omega
    have HL := Lib.hid hlen
    clear hlen
    go_enter Try.func27, Try.ntmps27
    go_wp2
    go_ret
    exact ⟨ret_bool (by rw [eq_comm, beq_eq_false_iff_ne]; intro h; exact HL.out (by rw [h])), rf w⟩
end Go.Proofs.Ytgdlghieifadhaa
