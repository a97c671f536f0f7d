/-
  The plain law of what a datagram's bytes are read as.
-/
import Derived.Test.YtbhplleaokncpaaUdM
set_option linter.unusedVariables false
namespace Go.Proofs.Ytbhplleaokncpaa
open Go.RowKit

theorem beB_pair (v : Nat) (h : v ≤ 65535) : ∃ x y : UInt8, beB v 2 = [x, y] ∧ x.toNat * 256 + y.toNat = v :=
  ⟨_, _, rfl, by simp only [Nat.reducePow, UInt8.toNat_ofNat']; omega⟩
theorem at2_udp (frp top : Int) (l : List UInt8) (s : Nat) (more : List UInt8) (h1 : frp.toNat ≤ 65535) (h2 : top.toNat ≤ 65535) (h3 : l.length ≤ 65507) (h4 : s ≤ 65535) :
    at2 (udpB frp top l s ++ more) 0 = frp.toNat ∧ at2 (udpB frp top l s ++ more) 2 = top.toNat ∧ at2 (udpB frp top l s ++ more) 4 = 8 + l.length ∧ at2 (udpB frp top l s ++ more) 6 = s ∧ (udpB frp top l s).drop 8 = l := by
  obtain ⟨x1, y1, e1, v1⟩ := beB_pair frp.toNat h1
  obtain ⟨x2, y2, e2, v2⟩ := beB_pair top.toNat h2
  obtain ⟨x3, y3, e3, v3⟩ := beB_pair (8 + l.length) (by omega)
  obtain ⟨x4, y4, e4, v4⟩ := beB_pair s h4
  have e : udpB frp top l s = x1 :: y1 :: x2 :: y2 :: x3 :: y3 :: x4 :: y4 :: l := by unfold udpB; rw [e1, e2, e3, e4]; rfl
  rw [e, ← v1, ← v2, ← v3, ← v4]
  simp [at2, beN]
-- read behind two addresses, with whatever behind it
theorem why_udp (c d : Nat) (frp top : Int) (l : List UInt8) (s : Nat) (more : List UInt8) (h1 : frp.toNat ≤ 65535) (h2 : top.toNat ≤ 65535) (h3 : l.length ≤ 65507) (h4 : s ≤ 65535) (hs : s ≠ 0) :
    whyU c d (udpB frp top l s ++ more) = if sumU c d (udpB frp top l s) ≠ 0 then 4 else 0 := by
  obtain ⟨_, _, a4, a6, _⟩ := at2_udp frp top l s more h1 h2 h3 h4
  have hl := udpB_len frp top l s
  have ht : (udpB frp top l s ++ more).take (8 + l.length) = udpB frp top l s := by rw [← hl]; exact List.take_left' rfl
  unfold whyU
  rw [a4, a6, ht, if_neg (by rw [List.length_append, hl]; omega), if_neg (by omega), if_neg (by rw [List.length_append, hl]; omega)]
  by_cases h : sumU c d (udpB frp top l s) = 0
  · rw [if_neg (by simp [h]), if_neg (by simp [h])]
  · rw [if_pos ⟨hs, h⟩, if_pos h]
theorem dD_udp (c d : Nat) (frp top : Int) (l : List UInt8) (s : Nat) (more : List UInt8) (h1 : frp.toNat ≤ 65535) (h2 : top.toNat ≤ 65535) (h3 : l.length ≤ 65507) (h4 : s ≤ 65535) (h0 : whyU c d (udpB frp top l s ++ more) = 0) :
    dD c d (udpB frp top l s ++ more) = l := by
  obtain ⟨_, _, a4, _, a8⟩ := at2_udp frp top l s more h1 h2 h3 h4
  have hl := udpB_len frp top l s
  have ht : (udpB frp top l s ++ more).take (8 + l.length) = udpB frp top l s := by rw [← hl]; exact List.take_left' rfl
  unfold dD
  rw [if_pos h0, a4, ht, a8]
theorem at2_get (l : List UInt8) (k : Nat) (h : k + 1 < l.length) : at2 l k = l[k].toNat * 256 + l[k + 1].toNat := by
  have := take2 l k h
  unfold at2
  omega
-- one byte turned
theorem why_turned (a b : Nat) (frp top : Int) (l : List UInt8) (k : Nat) (v : UInt8) (ha : a ≤ 4294967295) (hb : b ≤ 4294967295) (h1 : frp.toNat ≤ 65535) (h2 : top.toNat ≤ 65535) (h3 : l.length ≤ 65507)
    (le : List UInt8) (hle : le = udpB frp top l (encS a frp b top l)) (hk : k < le.length) (hv : v ≠ le[k]) :
    whyU a b (le.set k v) ≠ 0 ∨ ((le.set k v).getD 6 0).toNat = 0 ∧ ((le.set k v).getD 7 0).toNat = 0 ∨ k = 4 ∨ k = 5 := by
  by_cases c4 : k = 4
  · exact .inr (.inr (.inl c4))
  by_cases c5 : k = 5
  · exact .inr (.inr (.inr c5))
  by_cases hn : ((le.set k v).getD 6 0).toNat = 0 ∧ ((le.set k v).getD 7 0).toNat = 0
  · exact .inr (.inl hn)
  refine .inl ?_
  have hs := encS_le a frp b top l
  have hl : le.length = 8 + l.length := by rw [hle, udpB_len]
  have hl' : (le.set k v).length = 8 + l.length := by rw [List.length_set, hl]
  obtain ⟨_, _, a4, _, _⟩ := at2_udp frp top l (encS a frp b top l) [] h1 h2 h3 hs
  rw [List.append_nil, ← hle] at a4
  have b4 : at2 (le.set k v) 4 = 8 + l.length := by
    rw [at2_get _ _ (by omega)] at a4 ⊢
    rw [List.getElem_set_ne (by omega), List.getElem_set_ne (by omega)]
    exact a4
  have b6 : at2 (le.set k v) 6 ≠ 0 := by
    rw [at2_get _ _ (by omega)]
    rw [List.getD_eq_getElem?_getD, List.getD_eq_getElem?_getD, List.getElem?_eq_getElem (show 6 < (le.set k v).length by omega), List.getElem?_eq_getElem (show 7 < (le.set k v).length by omega)] at hn
    simp only [Option.getD_some] at hn
    intro h
    apply hn
    have e7 : (le.set k v)[6 + 1]'(by omega) = (le.set k v)[7]'(by omega) := rfl
    rw [e7] at h
    omega
  have h0 : sumU a b le = 0 := by rw [hle]; exact (enc_zero a b a b frp top l ha hb ha hb h1 h2 h3).2 rfl
  have ht : (le.set k v).take (8 + l.length) = le.set k v := List.take_of_length_le (by omega)
  have hs' := sum_turned a b le k v ha hb (by omega) hk hv h0
  unfold whyU
  rw [b4, ht, if_neg (by omega), if_neg (by omega), if_neg (by omega), if_pos ⟨b6, hs'⟩]
  decide
end Go.Proofs.Ytbhplleaokncpaa
