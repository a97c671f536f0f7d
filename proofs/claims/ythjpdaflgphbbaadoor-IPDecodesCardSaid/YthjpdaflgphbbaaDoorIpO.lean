/-
  IP: are options well made? In plain Lean, in the program and in the reference.
-/
import Derived.Test.YthjpdaflgphbbaaDoorByt
import Derived.WalkMore
set_option linter.unusedVariables false
namespace Go.Proofs.YthjpdaflgphbbaaDoor
open Go.RowKit

def gd (l : List UInt8) (i : Nat) : Bool :=
  if h : i < l.length then
    if l[i] = 0 then (l.drop i).all (· == 0)
    else if l[i] = 1 then gd l (i + 1)
    else if h2 : i + 1 < l.length then
      if h3 : l[i + 1].toNat < 2 ∨ l.length < i + l[i + 1].toNat then false else gd l (i + l[i + 1].toNat)
    else false
  else true
termination_by l.length - i
decreasing_by all_goals omega
theorem gd_end {l : List UInt8} {i : Nat} (h : ¬ i < l.length) : gd l i = true := by rw [gd, dif_neg h]
theorem gd_zero {l : List UInt8} {i : Nat} (h : i < l.length) (h0 : l[i] = 0) : gd l i = (l.drop i).all (· == 0) := by rw [gd, dif_pos h, if_pos h0]
theorem gd_one {l : List UInt8} {i : Nat} (h : i < l.length) (h1 : l[i] = 1) : gd l i = gd l (i + 1) := by rw [gd, dif_pos h, if_neg (by rw [h1]; decide), if_pos h1]
theorem gd_last {l : List UInt8} {i : Nat} (h : i < l.length) (h0 : l[i] ≠ 0) (h1 : l[i] ≠ 1) (h2 : ¬ i + 1 < l.length) : gd l i = false := by rw [gd, dif_pos h, if_neg h0, if_neg h1, dif_neg h2]
theorem gd_bad {l : List UInt8} {i : Nat} (h : i < l.length) (h0 : l[i] ≠ 0) (h1 : l[i] ≠ 1) (h2 : i + 1 < l.length) (h3 : l[i + 1].toNat < 2 ∨ l.length < i + l[i + 1].toNat) : gd l i = false := by rw [gd, dif_pos h, if_neg h0, if_neg h1, dif_pos h2, dif_pos h3]
theorem gd_go {l : List UInt8} {i : Nat} (h : i < l.length) (h0 : l[i] ≠ 0) (h1 : l[i] ≠ 1) (h2 : i + 1 < l.length) (h3 : ¬ (l[i + 1].toNat < 2 ∨ l.length < i + l[i + 1].toNat)) : gd l i = gd l (i + l[i + 1].toNat) := by rw [gd, dif_pos h, if_neg h0, if_neg h1, dif_pos h2, dif_neg h3]
theorem all_zero_bad {l : List UInt8} {k i : Nat} (hk : k ≤ i) (hi : i < l.length) (h : l[i] ≠ 0) : (l.drop k).all (· == 0) = false := by
  rw [← Bool.not_eq_true, List.all_eq_true]
  intro ha
  have := ha l[i] (List.mem_drop_iff_getElem.2 ⟨i - k, by omega, by congr 1; omega⟩)
  exact h (by simpa using this)
theorem all_zero_good {l : List UInt8} {k : Nat} (h : ∀ i, (hi : i < l.length) → k ≤ i → l[i] = 0) : (l.drop k).all (· == 0) = true := by
  rw [List.all_eq_true]
  intro x hx
  obtain ⟨j, hj, rfl⟩ := List.mem_drop_iff_getElem.1 hx
  simpa [Nat.add_comm] using h (k + j) (by omega) (by omega)

set_option maxHeartbeats 3200000 in
theorem optR (w : World) (A : Option Addr) (l : List UInt8) (n c : Nat) (hb : Bytes w A l) (hn : n = l.length) (hl : l.length ≤ 1099511627776) :
    Calls Tryd.prog 53 #[.slice A n c] w fun e w' => e = .returned (.bool (gd l 0)) ∧ w' = w := by
  subst hn
  go_enter Tryd.func53, Tryd.ntmps53
  go_wp2
  go_loopw [3] (fun i wr => ∃ k : Nat, i = .int .i64 k ∧ k ≤ l.length ∧ wr = w ∧ Hid (gd l k = gd l 0)) (fun i _ => l.length - (intOf i).toNat)
  case atStart => exact ⟨0, rfl, by omega, rfl, rfl⟩
  case round =>
    obtain ⟨k, rfl, hk, rfl, HG⟩ := hrel
    by_cases hlt : k < l.length
    · obtain ⟨ad, rfl, _, hc1⟩ := hb.at_ hlt
      have k0 : (0 : Int) ≤ k := by omega
      have k1 : (k : Int) < l.length := by omega
      by_cases h0 : l[k] = 0
      · have y0 : ((l[k].toNat : Int) == 0) = true := by rw [h0]; rfl
        have HZ := Lib.hid (gd_zero hlt h0)
        clear h0
        go_wp2
        go_loopw [4] (fun i w2 => ∃ q : Nat, i = .int .i64 q ∧ k ≤ q ∧ q ≤ l.length ∧ w2 = wr ∧ Hid (∀ i, (hi : i < l.length) → k ≤ i → i < q → l[i] = 0)) (fun i _ => l.length - (intOf i).toNat)
        case atStart => exact ⟨k, rfl, by omega, by omega, rfl, fun i _ h1 h2 => by omega⟩
        case round =>
          obtain ⟨q, rfl, hq1, hq2, rfl, HQ⟩ := hrel
          by_cases hql : q < l.length
          · obtain ⟨ad2, hA, _, hc2⟩ := hb.at_ hql
            injection hA with hA
            subst hA
            have q0 : (0 : Int) ≤ q := by omega
            have q1 : (q : Int) < l.length := by omega
            by_cases hz : l[q] = 0
            · have y1 : ((l[q].toNat : Int) != 0) = false := by rw [hz]; rfl
              have HZZ := Lib.hid hz; clear hz
              go_wp2
              go_roundw
              case rel => exact ⟨q + 1, by go_num, by omega, by omega, by first | trivial | rfl, fun i hi h1 h2 => by
                by_cases h3 : i < q
                · exact HQ.out i hi h1 h3
                · obtain rfl : i = q := by omega
                  exact HZZ.out⟩
              case measure => simp [intOf]; omega
            · have y1 : ((l[q].toNat : Int) != 0) = true := by
                rw [bne_iff_ne]; intro e; exact hz (UInt8.toNat_inj.1 (by show l[q].toNat = 0; omega))
              have HB := Lib.hid (all_zero_bad hq1 hql hz); clear hz
              go_wp2
              go_ret
              rw [← HG.out, HZ.out, HB.out]
              exact ⟨rfl, rfl⟩
          · have HB := Lib.hid (all_zero_good (l := l) (k := k) fun i hi h1 => HQ.out i hi h1 (by omega))
            have q1 : ¬ (q : Int) < l.length := by omega
            go_wp2
            go_ret
            rw [← HG.out, HZ.out, HB.out]
            exact ⟨rfl, rfl⟩
      · have y0 : ((l[k].toNat : Int) == 0) = false := by
          rw [beq_eq_false_iff_ne]; intro e; exact h0 (UInt8.toNat_inj.1 (by show l[k].toNat = 0; omega))
        by_cases h1 : l[k] = 1
        · have y1 : ((l[k].toNat : Int) == 1) = true := by rw [h1]; rfl
          have HS := Lib.hid (gd_one hlt h1)
          clear h0 h1
          go_wp2
          go_roundw
          case rel => exact ⟨k + 1, by go_num, by omega, by first | trivial | rfl, Lib.hid (by rw [← HS.out]; exact HG.out)⟩
          case measure => simp [intOf]; omega
        · have y1 : ((l[k].toNat : Int) == 1) = false := by
            rw [beq_eq_false_iff_ne]; intro e; exact h1 (UInt8.toNat_inj.1 (by show l[k].toNat = 1; omega))
          by_cases h2 : k + 1 < l.length
          · obtain ⟨ad2, hA, _, hc2⟩ := hb.at_ h2
            injection hA with hA
            subst hA
            have q0 : (0 : Int) ≤ k + 1 := by omega
            have q1 : ¬ (l.length : Int) ≤ k + 1 := by omega
            have q2 : (k : Int) + 1 < l.length := by omega
            have tn : ((k : Int) + 1).toNat = k + 1 := by omega
            have hc3 : wr.cell? ⟨ad.block, ad.off + (k + 1), none⟩ = some (.int .u8 l[k + 1].toNat) := by
              have := hc2
              unfold Addr.add at this
              rwa [if_neg (by omega)] at this
            have b1 := l[k + 1].toNat_lt
            by_cases h3 : l[k + 1].toNat < 2
            · have y2 : (l[k + 1].toNat : Int) < 2 := by omega
              have HS := Lib.hid (gd_bad hlt h0 h1 h2 (.inl h3))
              clear h0 h1
              go_wp2
              go_ret
              rw [← HG.out, HS.out]
              exact ⟨rfl, rfl⟩
            · have y2 : ¬ (l[k + 1].toNat : Int) < 2 := by omega
              by_cases h4 : l.length < k + l[k + 1].toNat
              · have y3 : (l.length : Int) < k + l[k + 1].toNat := by omega
                have HS := Lib.hid (gd_bad hlt h0 h1 h2 (.inr h4))
                clear h0 h1
                go_wp2
                go_ret
                rw [← HG.out, HS.out]
                exact ⟨rfl, rfl⟩
              · have y3 : ¬ (l.length : Int) < k + l[k + 1].toNat := by omega
                have HS := Lib.hid (gd_go hlt h0 h1 h2 (by omega))
                clear h0 h1
                go_wp2
                go_roundw
                case rel => exact ⟨k + l[k + 1].toNat, by go_num, by omega, by first | trivial | rfl, Lib.hid (by rw [← HS.out]; exact HG.out)⟩
                case measure => simp [intOf]; omega
          · have q1 : (l.length : Int) ≤ k + 1 := by omega
            have HS := Lib.hid (gd_last hlt h0 h1 h2)
            clear h0 h1
            go_wp2
            go_ret
            rw [← HG.out, HS.out]
            exact ⟨rfl, rfl⟩
    · have k1 : ¬ (k : Int) < l.length := by omega
      have HS := Lib.hid (gd_end (l := l) (i := k) (by omega))
      go_wp2
      go_ret
      rw [← HG.out, HS.out]
      exact ⟨rfl, rfl⟩
set_option maxHeartbeats 3200000 in
theorem goodC (w : World) (A : Option Addr) (l : List UInt8) (n c : Nat) (hb : Bytes w A l) (hn : n = l.length) (hc : l.length ≤ c) (hl : l.length ≤ 1099511627776) :
    Calls Tryd.prog 49 #[.slice A n c] w fun e w' => e = .returned (.bool (gd l 0)) ∧ w' = w := by
  subst hn
  go_enter Tryd.func49, Tryd.ntmps49
  go_wp2
  go_step3
  go_wp2
  go_step3
  go_wp2
  go_loopw [3] (fun i wr => ∃ k : Nat, i = .int .i64 k ∧ k ≤ l.length ∧ wr = w ∧ Hid (gd l k = gd l 0)) (fun i _ => l.length - (intOf i).toNat)
  case atStart => exact ⟨0, rfl, by omega, rfl, rfl⟩
  case round =>
    obtain ⟨k, rfl, hk, rfl, HG⟩ := hrel
    by_cases hlt : k < l.length
    · obtain ⟨ad, rfl, _, hc1⟩ := hb.at_ hlt
      have k0 : (0 : Int) ≤ k := by omega
      have k1 : (k : Int) < l.length := by omega
      by_cases h0 : l[k] = 0
      · have y0 : ((l[k].toNat : Int) == 0) = true := by rw [h0]; rfl
        have HZ := Lib.hid (gd_zero hlt h0)
        have hck : ¬ c = k := by omega
        clear h0
        go_wp2
        go_loopw [54] (fun i w2 => ∃ q : Nat, i = .int .i64 q ∧ k + q ≤ l.length ∧ w2 = wr ∧ Hid (∀ i, (hi : i < l.length) → k ≤ i → i < k + q → l[i] = 0)) (fun i _ => l.length - (intOf i).toNat)
        case atStart => exact ⟨0, rfl, by omega, rfl, fun i _ h1 h2 => by omega⟩
        case round =>
          obtain ⟨q, rfl, hq2, rfl, HQ⟩ := hrel
          by_cases hql : k + q < l.length
          · obtain ⟨ad2, hA, _, hc2⟩ := hb.at_ hql
            injection hA with hA
            subst hA
            have q0 : (0 : Int) ≤ q := by omega
            have q1 : (q : Int) < l.length - k := by omega
            have q2 : (q : Int) < ((l.length - k : Nat) : Int) := by omega
            have hc3 : wr.cell? ((ad.add k).add q) = some (.int .u8 l[k + q].toNat) := by rw [add_of_add]; exact hc2
            by_cases hz : l[k + q] = 0
            · have y1 : ((l[k + q].toNat : Int) != 0) = false := by rw [hz]; rfl
              have HZZ := Lib.hid hz; clear hz
              go_wp2
              go_roundw
              case rel => exact ⟨q + 1, by go_num, by omega, by first | trivial | rfl, fun i hi h1 h2 => by
                by_cases h3 : i < k + q
                · exact HQ.out i hi h1 h3
                · obtain rfl : i = k + q := by omega
                  exact HZZ.out⟩
              case measure => simp [intOf]; omega
            · have y1 : ((l[k + q].toNat : Int) != 0) = true := by
                rw [bne_iff_ne]; intro e; exact hz (UInt8.toNat_inj.1 (by show l[k + q].toNat = 0; omega))
              have HB := Lib.hid (all_zero_bad (k := k) (by omega) hql hz); clear hz
              go_wp2
              rw [Exit.noGoto_ret]
              go_ret
              rw [← HG.out, HZ.out, HB.out]
              exact ⟨rfl, rfl⟩
          · have HB := Lib.hid (all_zero_good (l := l) (k := k) fun i hi h1 => HQ.out i hi h1 (by omega))
            have q1 : ¬ (q : Int) < l.length - k := by omega
            have q2 : ¬ (q : Int) < ((l.length - k : Nat) : Int) := by omega
            go_wp2
            go_ret
            rw [← HG.out, HZ.out, HB.out]
            exact ⟨rfl, rfl⟩
      · have y0 : ((l[k].toNat : Int) == 0) = false := by
          rw [beq_eq_false_iff_ne]; intro e; exact h0 (UInt8.toNat_inj.1 (by show l[k].toNat = 0; omega))
        by_cases h1 : l[k] = 1
        · have y1 : ((l[k].toNat : Int) == 1) = true := by rw [h1]; rfl
          have HS := Lib.hid (gd_one hlt h1)
          clear h0 h1
          go_wp2
          go_roundw
          case rel => exact ⟨k + 1, by go_num, by omega, by first | trivial | rfl, Lib.hid (by rw [← HS.out]; exact HG.out)⟩
          case measure => simp [intOf]; omega
        · have y1 : ((l[k].toNat : Int) == 1) = false := by
            rw [beq_eq_false_iff_ne]; intro e; exact h1 (UInt8.toNat_inj.1 (by show l[k].toNat = 1; omega))
          by_cases h2 : k + 1 < l.length
          · obtain ⟨ad2, hA, _, hc2⟩ := hb.at_ h2
            injection hA with hA
            subst hA
            have q0 : (0 : Int) ≤ k + 1 := by omega
            have q1 : ¬ (l.length : Int) ≤ k + 1 := by omega
            have q2 : (k : Int) + 1 < l.length := by omega
            have tn : ((k : Int) + 1).toNat = k + 1 := by omega
            have hc3 : wr.cell? ⟨ad.block, ad.off + (k + 1), none⟩ = some (.int .u8 l[k + 1].toNat) := by
              have := hc2
              unfold Addr.add at this
              rwa [if_neg (by omega)] at this
            have b1 := l[k + 1].toNat_lt
            by_cases h3 : l[k + 1].toNat < 2
            · have y2 : (l[k + 1].toNat : Int) < 2 := by omega
              have HS := Lib.hid (gd_bad hlt h0 h1 h2 (.inl h3))
              clear h0 h1
              go_wp2
              go_ret
              rw [← HG.out, HS.out]
              exact ⟨rfl, rfl⟩
            · have y2 : ¬ (l[k + 1].toNat : Int) < 2 := by omega
              by_cases h4 : l.length < k + l[k + 1].toNat
              · have y3 : (l.length : Int) < k + l[k + 1].toNat := by omega
                have HS := Lib.hid (gd_bad hlt h0 h1 h2 (.inr h4))
                clear h0 h1
                go_wp2
                go_ret
                rw [← HG.out, HS.out]
                exact ⟨rfl, rfl⟩
              · have y3 : ¬ (l.length : Int) < k + l[k + 1].toNat := by omega
                have HS := Lib.hid (gd_go hlt h0 h1 h2 (by omega))
                clear h0 h1
                go_wp2
                go_roundw
                case rel => exact ⟨k + l[k + 1].toNat, by go_num, by omega, by first | trivial | rfl, Lib.hid (by rw [← HS.out]; exact HG.out)⟩
                case measure => simp [intOf]; omega
          · have q1 : (l.length : Int) ≤ k + 1 := by omega
            have HS := Lib.hid (gd_last hlt h0 h1 h2)
            clear h0 h1
            go_wp2
            rw [Exit.noGoto_ret]
            go_ret
            rw [← HG.out, HS.out]
            exact ⟨rfl, rfl⟩
    · have k1 : ¬ (k : Int) < l.length := by omega
      have HS := Lib.hid (gd_end (l := l) (i := k) (by omega))
      go_wp2
      go_ret
      rw [← HG.out, HS.out]
      exact ⟨rfl, rfl⟩
end Go.Proofs.YthjpdaflgphbbaaDoor
