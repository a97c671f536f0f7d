/-
  Names: the reference's Same, and the law's known name.
-/
import Derived.Test.YtlojbnnmlpfnbaaNmR
import Derived.Test.YtlojbnnmlpfnbaaNm2
set_option linter.unusedVariables false
namespace Go.Proofs.Ytlojbnnmlpfnbaa
open Go.RowKit

theorem low_small {a s : ByteArray} (h : s.data.toList = (a.data.toList.map fun c => UInt8.ofNat (lowN c.toNat))) : low s = low a := by
  unfold low
  rw [h, List.map_map]
  apply List.map_congr_left
  intro c _
  have hc := c.toNat_lt
  have h1 := lowN_le c.toNat (by omega)
  show lowN (UInt8.ofNat (lowN c.toNat)).toNat = lowN c.toNat
  rw [UInt8.toNat_ofNat', Nat.mod_eq_of_lt (by omega)]
  by_cases h65 : 65 ≤ c.toNat ∧ c.toNat ≤ 90
  · have e : lowN c.toNat = c.toNat + 32 := if_pos h65
    rw [e]; exact if_neg (by omega)
  · have e : lowN c.toNat = c.toNat := if_neg h65
    rw [e]; exact e
theorem small_low {a s : ByteArray} (h : s.data.toList = (a.data.toList.map fun c => UInt8.ofNat (lowN c.toNat))) : (s.data.toList.map (·.toNat)) = low a := by
  unfold low
  rw [h, List.map_map]
  apply List.map_congr_left
  intro c _
  have hc := c.toNat_lt
  have h1 := lowN_le c.toNat (by omega)
  show (UInt8.ofNat (lowN c.toNat)).toNat = lowN c.toNat
  rw [UInt8.toNat_ofNat', Nat.mod_eq_of_lt (by omega)]
theorem small_inj {a b s t : ByteArray} (h : s.data.toList = (a.data.toList.map fun c => UInt8.ofNat (lowN c.toNat))) (k : t.data.toList = (b.data.toList.map fun c => UInt8.ofNat (lowN c.toNat))) : s = t ↔ low a = low b := by
  constructor
  · intro e; rw [← small_low h, ← small_low k, e]
  · intro e
    apply bytes_ext
    have h1 := small_low h; have h2 := small_low k
    rw [← e, ← h1] at h2
    exact (List.map_inj_right (fun x y hxy => UInt8.toNat_inj.1 hxy)).1 h2.symm
set_option maxHeartbeats 800000 in
theorem rsameC (a b : ByteArray) (w : World) (ha : a.size ≤ 1099511627776) (hb : b.size ≤ 1099511627776) :
    Calls Try.prog 9 #[.string a, .string b] w fun e w' => e = .returned (.bool (low a == low b)) ∧ Below w.heap.size w w' := by
  go_enter Try.func9, Try.ntmps9
  go_wp2_with fail
  refine (smallC a _ ha).mono ?_
  rintro e w1 ⟨s, rfl, hs, b1⟩
  have HSs := Lib.hid hs; clear hs
  go_wp2_with fail
  refine (smallC b _ hb).mono ?_
  rintro e w2 ⟨t, rfl, ht, b2⟩
  have hi := small_inj HSs.out ht
  have HT := Lib.hid ht; clear ht
  have HI := Lib.hid hi; clear hi
  go_wp2
  go_ret
  refine ⟨ret_bool ?_, nx b1 b2⟩
  rw [Bool.eq_iff_iff, show ((s.toList == t.toList) = true) ↔ s.toList = t.toList from beq_iff_eq, ByteArray.toList_eq, ByteArray.toList_eq]
  rw [show ((low a == low b) = true) ↔ low a = low b from beq_iff_eq, ← HI.out]
  exact ⟨bytes_ext, fun h => by rw [h]⟩
set_option maxHeartbeats 800000 in
theorem known (w : World) : Calls Try.prog 6 #[] w fun e w' => e = .returned (.bool true) ∧ Below w.heap.size w w' := by
  have BN := Lib.hid (blk_bytes (l := [1, 97, 0, 1, 98, 192, 0]) (Blk.new w 5 #[.int .u8 1, .int .u8 97, .int .u8 0, .int .u8 1, .int .u8 98, .int .u8 192, .int .u8 0]) 0 (fun i hi => by
    match i, hi with
    | 0, _ => rfl
    | 1, _ => rfl
    | 2, _ => rfl
    | 3, _ => rfl
    | 4, _ => rfl
    | 5, _ => rfl
    | 6, _ => rfl))
  go_enter Try.func6, Try.ntmps6
  go_wp2_with fail
  refine (unpC w.heap.size 0 [1, 97, 0, 1, 98, 192, 0] 7 3 _ BN.out (by decide) (by decide) (by decide) _ unp_known).mono ?_
  rintro e w1 ⟨rfl, b1⟩
  have e1 : (⟨(jn [[98], [97]]).toArray⟩ : ByteArray) = ⟨#[98, 46, 97]⟩ := rfl
  rw [e1]
  clear e1
  go_wp2_with fail
  refine (sameC ⟨#[65, 46, 98]⟩ ⟨#[97, 46, 66]⟩ _ (by decide) (by decide)).mono ?_
  rintro e w2 ⟨rfl, n, rfl⟩
  have e2 : (low ⟨#[65, 46, 98]⟩ == low ⟨#[97, 46, 66]⟩) = true := by decide
  rw [e2]
  go_wp2
  go_ret
  exact ⟨rfl, dn (nx (al (rf w) _) b1) n⟩
end Go.Proofs.Ytlojbnnmlpfnbaa
