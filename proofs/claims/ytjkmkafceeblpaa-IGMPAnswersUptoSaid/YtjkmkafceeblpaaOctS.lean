/-
  The sum of a row's words, in the program and in the reference.
-/
import Derived.Test.YtjkmkafceeblpaaOctW
import Derived.Laws.BitsLemmas
set_option linter.unusedVariables false
namespace Go.Proofs.Ytjkmkafceeblpaa
open Go.RowKit

def oc (n : Nat) : Nat := if n = 0 then 0 else (n - 1) % 65535 + 1
theorem oc_le (n : Nat) : oc n ≤ 65535 := by unfold oc; split <;> omega
theorem oc_small {n : Nat} (h : n ≤ 65535) : oc n = n := by unfold oc; split <;> omega
theorem oc_step {n : Nat} (h : 65535 < n) : oc (n % 65536 + n / 65536) = oc n := by
  unfold oc; rw [if_neg (by omega), if_neg (by omega)]; omega
theorem oc_add (a b : Nat) : oc (oc a + b) = oc (a + b) := by
  unfold oc; split <;> split <;> (try split) <;> omega
theorem wraps_i64_62 (n : Int) (h₀ : 0 ≤ n) (h₁ : n < 2 ^ 62) : IntKind.i64.wrap n = n := IntWalk.i64_in _ (by omega)
theorem and16 (m : Int) (h0 : 0 ≤ m) (h1 : m ≤ 4611686018427387903) : bits .and .i64 m 65535 = m % 65536 :=
  bits_mask .i64 62 (by decide) wraps_i64_62 16 (by decide) m h0 (by omega)
theorem and1 (m : Int) (h0 : 0 ≤ m) (h1 : m ≤ 4611686018427387903) : bits .and .i64 m 1 = m % 2 :=
  bits_mask .i64 62 (by decide) wraps_i64_62 1 (by decide) m h0 (by omega)
set_option maxHeartbeats 400000 in
theorem foldC (n : Int) (w : World) (h0 : 0 ≤ n) (h1 : n ≤ 4611686018427387903) :
    Calls Try.prog 60 #[.int .i64 n] w fun e w' => e = .returned (.int .i64 (oc n.toNat)) ∧ w' = w := by
  obtain ⟨N, rfl⟩ := Int.eq_ofNat_of_zero_le h0
  rw [Int.toNat_natCast]
  have hN := Lib.hid h1; clear h0 h1
  go_enter Try.func60, Try.ntmps60
  go_wp2
  go_loop [0] (fun v => ∃ m : Nat, v = .int .i64 m ∧ m ≤ N ∧ oc m = oc N) (fun v => (intOf v).toNat)
  case atStart => exact ⟨N, rfl, Nat.le_refl _, rfl⟩
  case round =>
    obtain ⟨m, rfl, hm, ho⟩ := hrel
    have h2 : (m : Int) ≤ 4611686018427387903 := by have := hN.out; omega
    have HO := Lib.hid ho; clear ho
    by_cases hlt : 65535 < m
    · have ha := and16 (m : Int) (by omega) (by omega)
      have HS := Lib.hid (oc_step hlt)
      obtain ⟨s, hs⟩ : ∃ s : Nat, s = m % 65536 + m / 65536 := ⟨_, rfl⟩
      have HSS := Lib.hid hs
      have hsl : s < m := by omega
      obtain ⟨r, hr⟩ : ∃ r : Int, (m : Int) % 65536 = r := ⟨_, rfl⟩
      have hr0 : 0 ≤ r := by omega
      have hr1 : r < 65536 := by omega
      rw [hr] at ha
      have HR := Lib.hid hr
      clear hr hs
      go_wp2
      go_round
      case rel => exact ⟨s, by have := HR.out; have := HSS.out; congr 1; omega, by omega, by rw [HSS.out, HS.out, HO.out]⟩
      case measure => simp [intOf]; have := HR.out; have := HSS.out; omega
    · have HE : Hid (oc N = m) := by show oc N = m; rw [← HO.out, oc_small (by omega)]
      go_wp2
      go_ret
      exact ⟨by rw [HE.out]; rfl, rfl⟩
set_option maxHeartbeats 400000 in
theorem foldF (n : Int) (w : World) (h0 : 0 ≤ n) (h1 : n ≤ 4611686018427387903) :
    Calls Try.prog 65 #[.int .i64 n] w fun e w' => e = .returned (.int .i64 (oc n.toNat)) ∧ w' = w := by
  obtain ⟨N, rfl⟩ := Int.eq_ofNat_of_zero_le h0
  rw [Int.toNat_natCast]
  have hN := Lib.hid h1; clear h0 h1
  go_enter Try.func65, Try.ntmps65
  go_wp2
  go_loop [0] (fun v => ∃ m : Nat, v = .int .i64 m ∧ m ≤ N ∧ oc m = oc N) (fun v => (intOf v).toNat)
  case atStart => exact ⟨N, rfl, Nat.le_refl _, rfl⟩
  case round =>
    obtain ⟨m, rfl, hm, ho⟩ := hrel
    have h2 : (m : Int) ≤ 4611686018427387903 := by have := hN.out; omega
    have HO := Lib.hid ho; clear ho
    by_cases hlt : 65535 < m
    · have ha := and16 (m : Int) (by omega) (by omega)
      have HS := Lib.hid (oc_step hlt)
      obtain ⟨s, hs⟩ : ∃ s : Nat, s = m % 65536 + m / 65536 := ⟨_, rfl⟩
      have HSS := Lib.hid hs
      have hsl : s < m := by omega
      obtain ⟨r, hr⟩ : ∃ r : Int, (m : Int) % 65536 = r := ⟨_, rfl⟩
      have hr0 : 0 ≤ r := by omega
      have hr1 : r < 65536 := by omega
      rw [hr] at ha
      have HR := Lib.hid hr
      clear hr hs
      go_wp2
      go_round
      case rel => exact ⟨s, by have := HR.out; have := HSS.out; congr 1; omega, by omega, by rw [HSS.out, HS.out, HO.out]⟩
      case measure => simp [intOf]; have := HR.out; have := HSS.out; omega
    · have HE : Hid (oc N = m) := by show oc N = m; rw [← HO.out, oc_small (by omega)]
      go_wp2
      go_ret
      exact ⟨by rw [HE.out]; rfl, rfl⟩
def wst (l : List UInt8) : Nat → Nat
  | 0 => 0
  | k + 1 => wst l k + (l.getD k 0).toNat * (if k % 2 = 0 then 256 else 1)
theorem wst_le (l : List UInt8) : ∀ k, wst l k ≤ k * 65280
  | 0 => Nat.le_refl _
  | k + 1 => by
    have h := wst_le l k
    have h1 : (l.getD k 0).toNat ≤ 255 := by have := (l.getD k 0).toNat_lt; omega
    have h2 : (l.getD k 0).toNat * (if k % 2 = 0 then 256 else 1) ≤ 65280 := by split <;> omega
    simp only [wst]; omega
theorem an0 : bits .andNot .u64 8 0 = 8 := by decide
theorem an8 : bits .andNot .u64 8 8 = 0 := by decide
set_option maxHeartbeats 800000 in
theorem partC (A : Option Addr) (c : Nat) (l : List UInt8) (n : Nat) (w : World) (hb : Bytes w A l) (hn : n = l.length) (hl : l.length ≤ 1099511627776) :
    Calls Try.prog 43 #[.slice A n c] w fun e w' => e = .returned (.int .i64 (oc (wst l l.length))) ∧ w' = w := by
  have HB := Lib.hid hb
  have HN := Lib.hid hn
  have hn2 : (n : Int) ≤ 1099511627776 := by omega
  clear hb hn hl
  have a0 := an0
  have a8 := an8
  go_enter Try.func43, Try.ntmps43
  go_wp2
  go_loop [3, 7] (fun s i => ∃ k : Nat, k ≤ n ∧ i = .int .i64 k ∧ s = .int .i64 (wst l k)) (fun _ i => n - (intOf i).toNat)
  case atStart => exact ⟨0, Nat.zero_le _, rfl, rfl⟩
  case round =>
    obtain ⟨k, hk, rfl, rfl⟩ := hrel
    have hw := wst_le l k
    have hwi : (wst l k : Int) ≤ 71776119061217280 := by omega
    by_cases hlt : k < n
    · obtain ⟨ad, hA, had, hc⟩ := HB.out.at_ (k := k) (by have := HN.out; omega)
      subst hA
      have hlt2 : (k : Int) < n := by omega
      have e1 := and1 (k : Int) (by omega) (by omega)
      have hstep : wst l (k + 1) = wst l k + (l.getD k 0).toNat * (if k % 2 = 0 then 256 else 1) := rfl
      have hget : l.getD k 0 = l[k]'(by have := HN.out; omega) := by rw [List.getD_eq_getElem?_getD, List.getElem?_eq_getElem]; rfl
      rw [hget] at hstep
      have hx : (l[k]'(by have := HN.out; omega)).toNat ≤ 255 := by have := (l[k]'(by have := HN.out; omega)).toNat_lt; omega
      generalize (l[k]'(by have := HN.out; omega)).toNat = x at hc hstep hx
      have HST := Lib.hid hstep
      have hx2 : (x : Int) ≤ 255 := by omega
      clear hstep hw hget had
      rcases Nat.mod_two_eq_zero_or_one k with h2 | h2
      · have e2 : bits .and .i64 (k : Int) 1 = 0 := by rw [e1]; omega
        have HST2 : Hid (wst l (k + 1) = wst l k + x * 256) := by show _ = _; rw [HST.out, if_pos h2]
        clear h2 e1
        go_wp2
        go_round
        case rel => exact ⟨k + 1, by omega, by go_num, by rw [HST2.out]; go_num⟩
        case measure => simp [intOf]; omega
      · have e2 : bits .and .i64 (k : Int) 1 = 1 := by rw [e1]; omega
        have HST2 : Hid (wst l (k + 1) = wst l k + x) := by show _ = _; rw [HST.out, if_neg (by omega)]; omega
        clear h2 e1
        go_wp2
        go_round
        case rel => exact ⟨k + 1, by omega, by go_num, by rw [HST2.out]; go_num⟩
        case measure => simp [intOf]; omega
    · obtain rfl : k = n := by omega
      have HE : Hid (wst l k = wst l l.length) := by show _ = _; rw [HN.out]
      go_wp2_with fail
      refine (foldC _ _ (by omega) (by omega)).mono ?_
      rintro e w1 ⟨rfl, rfl⟩
      go_wp2
      go_ret
      exact ⟨by rw [← HE.out]; rfl, rfl⟩
def sumB (l : List UInt8) : Nat := 65535 - oc (wst l l.length)
theorem sumB_int (l : List UInt8) : (65535 : Int) - (oc (wst l l.length) : Nat) = (sumB l : Nat) := by
  have := oc_le (wst l l.length); unfold sumB; omega
theorem sumC (A : Option Addr) (c : Nat) (l : List UInt8) (n : Nat) (w : World) (hb : Bytes w A l) (hn : n = l.length) (hl : l.length ≤ 1099511627776) :
    Calls Try.prog 20 #[.slice A n c] w fun e w' => e = .returned (.int .i64 (sumB l)) ∧ w' = w := by
  have HC := Lib.hid (partC A c l n w hb hn hl)
  have HS := Lib.hid (sumB_int l)
  have h1 := oc_le (wst l l.length)
  generalize oc (wst l l.length) = o at HC HS h1
  have h2 : (o : Int) ≤ 65535 := by omega
  clear hb hn hl h1
  go_enter Try.func20, Try.ntmps20
  go_wp2_with fail
  refine HC.out.mono ?_
  rintro e w1 ⟨rfl, rfl⟩
  go_wp2
  go_ret
  exact ⟨by rw [← HS.out]; rfl, rfl⟩
set_option maxHeartbeats 800000 in
theorem partF (A : Option Addr) (c : Nat) (l : List UInt8) (n : Nat) (w : World) (hb : Bytes w A l) (hn : n = l.length) (hl : l.length ≤ 1099511627776) :
    Calls Try.prog 52 #[.slice A n c] w fun e w' => e = .returned (.int .i64 (oc (wst l l.length))) ∧ w' = w := by
  have HB := Lib.hid hb
  have HN := Lib.hid hn
  have hn2 : (n : Int) ≤ 1099511627776 := by omega
  clear hb hn hl
  go_enter Try.func52, Try.ntmps52
  go_wp2
  go_loop [3, 4] (fun s i => ∃ j k o : Nat, j = 2 * k ∧ j ≤ n + 1 ∧ i = .int .i64 j ∧ s = .int .i64 o ∧ o = oc (wst l (min j n))) (fun _ i => n + 2 - (intOf i).toNat)
  case atStart => exact ⟨0, 0, 0, rfl, by omega, rfl, rfl, by rw [show min 0 n = 0 by omega]; rfl⟩
  case round =>
    obtain ⟨k, k2, o, hkk, hk, rfl, rfl, ho⟩ := hrel
    have ho1 : o ≤ 65535 := by rw [ho]; exact oc_le _
    have ho2 : (o : Int) ≤ 65535 := by omega
    by_cases hlt : k < n
    · have HO : Hid (o = oc (wst l k)) := by show o = _; rw [ho, Nat.min_eq_left (by omega)]
      obtain ⟨ad, hA, had, hc⟩ := HB.out.at_ (k := k) (by have := HN.out; omega)
      subst hA
      have hlt2 : (k : Int) < n := by omega
      have hstep : wst l (k + 1) = wst l k + (l.getD k 0).toNat * (if k % 2 = 0 then 256 else 1) := rfl
      have hget : l.getD k 0 = l[k]'(by have := HN.out; omega) := by rw [List.getD_eq_getElem?_getD, List.getElem?_eq_getElem]; rfl
      rw [hget, if_pos (by omega)] at hstep
      have hx : (l[k]'(by have := HN.out; omega)).toNat ≤ 255 := by have := (l[k]'(by have := HN.out; omega)).toNat_lt; omega
      generalize (l[k]'(by have := HN.out; omega)).toNat = x at hc hstep hx
      have HST := Lib.hid hstep
      have hx2 : (x : Int) ≤ 255 := by omega
      clear hstep hget had ho
      by_cases hl2 : k + 1 < n
      · obtain ⟨ad2, hA2, had2, hc2⟩ := HB.out.at_ (k := k + 1) (by have := HN.out; omega)
        injection hA2 with hA2
        subst hA2
        have hstep : wst l (k + 2) = wst l (k + 1) + (l.getD (k + 1) 0).toNat * (if (k + 1) % 2 = 0 then 256 else 1) := rfl
        have hget : l.getD (k + 1) 0 = l[k + 1]'(by have := HN.out; omega) := by rw [List.getD_eq_getElem?_getD, List.getElem?_eq_getElem]; rfl
        rw [hget, if_neg (by omega)] at hstep
        have hy : (l[k + 1]'(by have := HN.out; omega)).toNat ≤ 255 := by have := (l[k + 1]'(by have := HN.out; omega)).toNat_lt; omega
        generalize (l[k + 1]'(by have := HN.out; omega)).toNat = y at hc2 hstep hy
        have hlt3 : (k : Int) + 1 < n := by omega
        have HST2 : Hid (oc (o + x * 256 + y) = oc (wst l (k + 2))) := by
          show oc _ = oc _
          rw [hstep, HST.out, HO.out, Nat.add_assoc, oc_add]; congr 1; omega
        have hy2 : (y : Int) ≤ 255 := by omega
        have HKK := Lib.hid hkk
        have hc3 : w.cell? ⟨ad.block, ad.off + (k + 1), none⟩ = some (.int .u8 y) := by simpa [Addr.add] using hc2
        have hb1 : (o : Int) + x * 256 + y ≤ 4611686018427387903 := by omega
        have hb0 : 0 ≤ (o : Int) + x * 256 + y := by omega
        clear hstep hget had2 hkk hc2
        go_wp2_with fail
        refine (foldF _ _ hb0 hb1).mono ?_
        rintro e w1 ⟨rfl, rfl⟩
        have HT : Hid (((o : Int) + x * 256 + y).toNat = o + x * 256 + y) := by show Int.toNat _ = _; omega
        rw [HT.out, HST2.out]
        have HMIN : Hid (min (k + 2) n = k + 2) := Nat.min_eq_left (by omega)
        go_wp2
        go_round
        case rel => exact ⟨k + 2, k2 + 1, _, by have := HKK.out; omega, by omega, by go_num, rfl, by rw [HMIN.out]⟩
        case measure => simp [intOf]; omega
      · have HST2 : Hid (oc (o + x * 256) = oc (wst l (k + 1))) := by
          show oc _ = oc _
          rw [HST.out, HO.out, oc_add]
        have HKK := Lib.hid hkk
        have hge : ¬ (k : Int) + 1 < n := by omega
        have hb1 : (o : Int) + x * 256 ≤ 4611686018427387903 := by omega
        have hb0 : 0 ≤ (o : Int) + x * 256 := by omega
        have HT : Hid (((o : Int) + x * 256).toNat = o + x * 256) := by show Int.toNat _ = _; omega
        have HMIN : Hid (min (k + 2) n = k + 1) := by show min _ _ = _; rw [Nat.min_eq_right (by omega)]; omega
        clear hkk
        go_wp2_with fail
        refine (foldF _ _ hb0 hb1).mono ?_
        rintro e w1 ⟨rfl, rfl⟩
        rw [HT.out, HST2.out]
        go_wp2
        go_round
        case rel => exact ⟨k + 2, k2 + 1, _, by have := HKK.out; omega, by omega, by go_num, rfl, by rw [HMIN.out]⟩
        case measure => simp [intOf]; omega
    · have HE : Hid (o = oc (wst l l.length)) := by show o = _; rw [ho, Nat.min_eq_right (by omega), HN.out]
      clear ho
      go_wp2
      go_ret
      exact ⟨by rw [← HE.out]; rfl, rfl⟩
end Go.Proofs.Ytjkmkafceeblpaa
