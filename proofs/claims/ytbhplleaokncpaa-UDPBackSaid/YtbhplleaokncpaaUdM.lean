/-
  The plain law of a datagram's sum: what is written sums up to nothing; one byte turned does not.
-/
import Derived.Test.YtbhplleaokncpaaUdDec
set_option linter.unusedVariables false
namespace Go.Proofs.Ytbhplleaokncpaa
open Go.RowKit

def words (a : Nat) : Nat := a / 65536 + a % 65536
def hdrB (frp top n s : Nat) : List UInt8 := beB frp 2 ++ beB top 2 ++ beB n 2 ++ beB s 2
theorem udpB_hdr (frp top : Int) (l : List UInt8) (s : Nat) : udpB frp top l s = hdrB frp.toNat top.toNat (8 + l.length) s ++ l := rfl
theorem hdrB_len (frp top n s : Nat) : (hdrB frp top n s).length = 8 := by simp [hdrB, beB_len]
theorem wst_hdr (frp top n s : Nat) (h1 : frp ≤ 65535) (h2 : top ≤ 65535) (h3 : n ≤ 65535) (h4 : s ≤ 65535) : wst (hdrB frp top n s) 8 = frp + top + n + s := by
  simp [hdrB, beB, wst, List.getD_eq_getElem?_getD]
  omega
theorem wst_pse (a b n : Nat) (h1 : a ≤ 4294967295) (h2 : b ≤ 4294967295) (h3 : n ≤ 65535) : wst (pseB a b n) 12 = words a + words b + 17 + n := by
  simp [pseB, beB, wst, List.getD_eq_getElem?_getD, words]
  omega
theorem oc_full (n : Nat) : oc n = 65535 ↔ n ≠ 0 ∧ n % 65535 = 0 := by
  unfold oc; split <;> omega
theorem oc_mod (n : Nat) (h : 0 < n) : 1 ≤ oc n ∧ oc n ≤ 65535 ∧ oc n % 65535 = n % 65535 := by
  unfold oc; rw [if_neg (by omega)]; omega
-- the sum of bytes behind two addresses
theorem sumU_zero (a b : Nat) (l : List UInt8) (h1 : a ≤ 4294967295) (h2 : b ≤ 4294967295) (h3 : l.length ≤ 65535) : sumU a b l = 0 ↔ (words a + words b + 17 + l.length + wst l l.length) % 65535 = 0 := by
  have hp := wst_pse a b l.length h1 h2 h3
  have hl := pseB_len a b l.length
  have ht : wst (pseB a b l.length ++ l) (pseB a b l.length ++ l).length = words a + words b + 17 + l.length + wst l l.length := by
    have := wst_append (pseB a b l.length) l (by rw [hl]) l.length (Nat.le_refl _)
    rw [List.length_append, this, hl, hp]
  have h := oc_full (words a + words b + 17 + l.length + wst l l.length)
  have hle := oc_le (words a + words b + 17 + l.length + wst l l.length)
  unfold sumU sumB
  rw [ht]
  omega
theorem wst_udp (frp top : Int) (l : List UInt8) (s : Nat) (h1 : frp.toNat ≤ 65535) (h2 : top.toNat ≤ 65535) (h3 : l.length ≤ 65507) (h4 : s ≤ 65535) : wst (udpB frp top l s) (udpB frp top l s).length = frp.toNat + top.toNat + (8 + l.length) + s + wst l l.length := by
  have hh := wst_hdr frp.toNat top.toNat (8 + l.length) s h1 h2 (by omega) h4
  have hl := hdrB_len frp.toNat top.toNat (8 + l.length) s
  rw [udpB_hdr, List.length_append, wst_append _ _ (by rw [hl]) _ (Nat.le_refl _), hl, hh]
theorem encS_ne (fr frp to_ top : Int) (l : List UInt8) : encS fr frp to_ top l ≠ 0 := by
  unfold encS; split <;> omega
-- the sum that stands in a datagram, behind any two addresses
theorem enc_zero (a b c d : Nat) (frp top : Int) (l : List UInt8) (ha : a ≤ 4294967295) (hb : b ≤ 4294967295) (hc : c ≤ 4294967295) (hd : d ≤ 4294967295) (h1 : frp.toNat ≤ 65535) (h2 : top.toNat ≤ 65535) (h3 : l.length ≤ 65507) :
    sumU c d (udpB frp top l (encS a frp b top l)) = 0 ↔ (words c + words d) % 65535 = (words a + words b) % 65535 := by
  have hs := encS_le a frp b top l
  have hl := udpB_len frp top l (encS a frp b top l)
  have hl0 := udpB_len frp top l 0
  have hw := wst_udp frp top l (encS a frp b top l) h1 h2 h3 hs
  have hw0 := wst_udp frp top l 0 h1 h2 h3 (by omega)
  rw [sumU_zero c d _ hc hd (by rw [hl]; omega), hw, hl]
  have hp := wst_pse a b (8 + l.length) ha hb (by omega)
  have hpl := pseB_len a b (udpB frp top l 0).length
  have ht : wst (pseB a b (udpB frp top l 0).length ++ udpB frp top l 0) (pseB a b (udpB frp top l 0).length ++ udpB frp top l 0).length = words a + words b + 17 + (8 + l.length) + (frp.toNat + top.toNat + (8 + l.length) + 0 + wst l l.length) := by
    have := wst_append (pseB a b (udpB frp top l 0).length) (udpB frp top l 0) (by rw [hpl]) _ (Nat.le_refl _)
    rw [List.length_append, this, hpl, hw0, hl0, hp]
  have he : encS a frp b top l = if sumU a b (udpB frp top l 0) = 0 then 65535 else sumU a b (udpB frp top l 0) := rfl
  have hu : sumU a b (udpB frp top l 0) = 65535 - oc (words a + words b + 17 + (8 + l.length) + (frp.toNat + top.toNat + (8 + l.length) + 0 + wst l l.length)) := by
    unfold sumU sumB; rw [ht]
  rw [hu] at he
  generalize encS a frp b top l = s at *
  clear hu ht hw hw0 hp hpl hl hl0
  obtain ⟨o1, o2, o3⟩ := oc_mod (words a + words b + 17 + (8 + l.length) + (frp.toNat + top.toNat + (8 + l.length) + 0 + wst l l.length)) (by omega)
  generalize oc (words a + words b + 17 + (8 + l.length) + (frp.toNat + top.toNat + (8 + l.length) + 0 + wst l l.length)) = o at *
  generalize wst l l.length = v at *
  split at he <;> omega
-- one byte turned
theorem wst_set (v : UInt8) : ∀ (n k : Nat) (l : List UInt8), n ≤ l.length → k < n → wst (l.set k v) n + (l.getD k 0).toNat * (if k % 2 = 0 then 256 else 1) = wst l n + v.toNat * (if k % 2 = 0 then 256 else 1)
  | 0, k, l, _, h => absurd h (by omega)
  | n + 1, k, l, hn, h => by
    by_cases hk : k = n
    · subst hk
      have same : ∀ m, m ≤ k → wst (l.set k v) m = wst l m := by
        intro m
        induction m with
        | zero => intro _; rfl
        | succ m ih =>
          intro hm
          simp only [wst]
          rw [ih (by omega)]
          congr 2
          rw [List.getD_eq_getElem?_getD, List.getD_eq_getElem?_getD, List.getElem?_set_ne (by omega)]
      simp only [wst]
      rw [same k (Nat.le_refl _)]
      have : (l.set k v).getD k 0 = v := by rw [List.getD_eq_getElem?_getD, List.getElem?_set_self (by omega)]; rfl
      rw [this]; omega
    · have ih := wst_set v n k l (by omega) (by omega)
      simp only [wst]
      have : (l.set k v).getD n 0 = l.getD n 0 := by rw [List.getD_eq_getElem?_getD, List.getD_eq_getElem?_getD, List.getElem?_set_ne (by omega)]
      rw [this]; omega
theorem sum_turned (a b : Nat) (l : List UInt8) (k : Nat) (v : UInt8) (h1 : a ≤ 4294967295) (h2 : b ≤ 4294967295) (h3 : l.length ≤ 65535) (hk : k < l.length) (hv : v ≠ l[k]) (h0 : sumU a b l = 0) : sumU a b (l.set k v) ≠ 0 := by
  have e0 := (sumU_zero a b l h1 h2 h3).1 h0
  intro h
  have e1 := (sumU_zero a b (l.set k v) h1 h2 (by rw [List.length_set]; exact h3)).1 h
  rw [List.length_set] at e1
  have hw := wst_set v l.length k l (Nat.le_refl _) hk
  have hg : l.getD k 0 = l[k] := by rw [List.getD_eq_getElem?_getD, List.getElem?_eq_getElem hk]; rfl
  rw [hg] at hw
  have hne : v.toNat ≠ l[k].toNat := fun e => hv (UInt8.toNat_inj.1 e)
  have b1 := v.toNat_lt
  have b2 := l[k].toNat_lt
  generalize l[k].toNat = x at *
  generalize v.toNat = y at *
  generalize wst (l.set k v) l.length = p at *
  generalize wst l l.length = q at *
  split at hw <;> omega
end Go.Proofs.Ytbhplleaokncpaa
