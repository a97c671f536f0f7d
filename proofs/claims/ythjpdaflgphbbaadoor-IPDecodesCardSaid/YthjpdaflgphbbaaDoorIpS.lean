/-
  IP, in plain Lean: a header's sum; a packet that ends too early; a byte of the header turned.
-/
import Derived.Test.YthjpdaflgphbbaaDoorIpD
import Derived.Test.YthjpdaflgphbbaaDoorIpEn
set_option linter.unusedVariables false
namespace Go.Proofs.YthjpdaflgphbbaaDoor
open Go.RowKit

theorem wst_append (p b : List UInt8) (hp : p.length % 2 = 0) : ∀ k, k ≤ b.length → wst (p ++ b) (p.length + k) = wst p p.length + wst b k
  | 0, _ => by
    have h : ∀ j, j ≤ p.length → wst (p ++ b) j = wst p j := by
      intro j
      induction j with
      | zero => intro _; rfl
      | succ j ih =>
        intro hj
        simp only [wst]
        rw [ih (by omega)]
        congr 2
        rw [List.getD_eq_getElem?_getD, List.getD_eq_getElem?_getD, List.getElem?_append_left (by omega)]
    rw [Nat.add_zero, h _ (Nat.le_refl _)]; rfl
  | k + 1, hk => by
    have ih := wst_append p b hp k (by omega)
    have hs : wst (p ++ b) (p.length + (k + 1)) = wst (p ++ b) (p.length + k) + ((p ++ b).getD (p.length + k) 0).toNat * (if (p.length + k) % 2 = 0 then 256 else 1) := rfl
    have e1 : (p ++ b).getD (p.length + k) 0 = b.getD k 0 := by
      rw [List.getD_eq_getElem?_getD, List.getD_eq_getElem?_getD, List.getElem?_append_right (by omega), Nat.add_sub_cancel_left]
    have e2 : (p.length + k) % 2 = k % 2 := by omega
    rw [hs, ih, e1, e2]
    show _ = _ + (wst b k + _)
    omega
theorem wst_set (v : UInt8) : ∀ (n k : Nat) (l : List UInt8), n ≤ l.length → k < n → wst (l.set k v) n + (l.getD k 0).toNat * (if k % 2 = 0 then 256 else 1) = wst l n + v.toNat * (if k % 2 = 0 then 256 else 1)
  | 0, k, l, _, h => absurd h (by omega)
  | n + 1, k, l, hn, h => by
    by_cases hk : k = n
    · subst hk
      have same : ∀ m, m ≤ k → wst (l.set k v) m = wst l m := by
        intro m
        induction m with
        | zero => intro _; rfl
        | succ m ih =>
          intro hm
          simp only [wst]
          rw [ih (by omega)]
          congr 2
          rw [List.getD_eq_getElem?_getD, List.getD_eq_getElem?_getD, List.getElem?_set_ne (by omega)]
      simp only [wst]
      rw [same k (Nat.le_refl _)]
      have : (l.set k v).getD k 0 = v := by rw [List.getD_eq_getElem?_getD, List.getElem?_set_self (by omega)]; rfl
      rw [this]; omega
    · have ih := wst_set v n k l (by omega) (by omega)
      simp only [wst]
      have : (l.set k v).getD n 0 = l.getD n 0 := by rw [List.getD_eq_getElem?_getD, List.getD_eq_getElem?_getD, List.getElem?_set_ne (by omega)]
      rw [this]; omega
theorem oc_full (n : Nat) : oc n = 65535 ↔ n ≠ 0 ∧ n % 65535 = 0 := by
  unfold oc; split <;> omega
theorem oc_mod (n : Nat) (h : 0 < n) : 1 ≤ oc n ∧ oc n ≤ 65535 ∧ oc n % 65535 = n % 65535 := by
  unfold oc; rw [if_neg (by omega)]; omega
theorem sumB_zero (l : List UInt8) : sumB l = 0 ↔ wst l l.length ≠ 0 ∧ wst l l.length % 65535 = 0 := by
  have h := oc_full (wst l l.length)
  have hle := oc_le (wst l l.length)
  unfold sumB
  omega
theorem sum_turned (l : List UInt8) (k : Nat) (v : UInt8) (hk : k < l.length) (hv : v ≠ l[k]) (h0 : sumB l = 0) : sumB (l.set k v) ≠ 0 := by
  have e0 := (sumB_zero l).1 h0
  intro h
  have e1 := (sumB_zero (l.set k v)).1 h
  rw [List.length_set] at e1
  have hw := wst_set v l.length k l (Nat.le_refl _) hk
  have hg : l.getD k 0 = l[k] := by rw [List.getD_eq_getElem?_getD, List.getElem?_eq_getElem hk]; rfl
  rw [hg] at hw
  have hne : v.toNat ≠ l[k].toNat := fun e => hv (UInt8.toNat_inj.1 e)
  have b1 := v.toNat_lt
  have b2 := l[k].toNat_lt
  generalize l[k].toNat = x at *
  generalize v.toNat = y at *
  generalize wst (l.set k v) l.length = p at *
  generalize wst l l.length = q at *
  split at hw <;> omega
theorem wst_two (s : Nat) (h : s ≤ 65535) : wst (beB s 2) 2 = s := by
  simp [beB, wst, List.getD_eq_getElem?_getD]
  omega
theorem wst_hdr (p : Pk) (s : Nat) (h : s ≤ 65535) : wst (hdr p s) (hdr p s).length = wst (hd1 p) 10 + s + wst (hd2 p) (hd2 p).length := by
  have e1 := wst_append (hd1 p) (beB s 2 ++ hd2 p) (by rw [hd1_len]) _ (Nat.le_refl _)
  have e2 := wst_append (beB s 2) (hd2 p) (by rw [beB_len]) _ (Nat.le_refl _)
  rw [beB_len, wst_two s h] at e2
  have e3 : (beB s 2 ++ hd2 p).length = 2 + (hd2 p).length := by rw [List.length_append, beB_len]
  unfold hdr
  rw [List.append_assoc, List.length_append, e1, hd1_len, e3, e2]
  omega
theorem hd1_pos (p : Pk) (ok : OkP p) : wst (hd1 p) 10 ≠ 0 := by
  have h : (hd1 p).getD 0 0 = UInt8.ofNat ((64 + sizeP p.op.length / 4) / 256 ^ 0 % 256) := rfl
  have m : ∀ k, k < 10 → wst (hd1 p) 1 ≤ wst (hd1 p) (k + 1) := by
    intro k
    induction k with
    | zero => intro _; exact Nat.le_refl _
    | succ k ih => intro hk; have := ih (by omega); have e : wst (hd1 p) (k + 1 + 1) = wst (hd1 p) (k + 1) + ((hd1 p).getD (k + 1) 0).toNat * (if (k + 1) % 2 = 0 then 256 else 1) := rfl; omega
  have h1 := m 9 (by omega)
  have e : wst (hd1 p) 1 = 0 + ((hd1 p).getD 0 0).toNat * 256 := rfl
  have hz : sizeP p.op.length ≤ 60 := by have := ok.ol; unfold sizeP; omega
  have hb : (UInt8.ofNat ((64 + sizeP p.op.length / 4) / 256 ^ 0 % 256)).toNat = 64 + sizeP p.op.length / 4 := by simp only [Nat.reducePow, UInt8.toNat_ofNat']; omega
  rw [h, hb] at e
  show wst (hd1 p) (9 + 1) ≠ 0
  omega
theorem hdr_sum (p : Pk) (ok : OkP p) : sumB (hdr p (sumB (hdr p 0))) = 0 := by
  have hs : sumB (hdr p 0) ≤ 65535 := by unfold sumB; omega
  rw [sumB_zero, wst_hdr p _ hs]
  have h0 := wst_hdr p 0 (by omega)
  have hp := hd1_pos p ok
  have e : sumB (hdr p 0) = 65535 - oc (wst (hdr p 0) (hdr p 0).length) := rfl
  rw [h0] at e
  obtain ⟨o1, o2, o3⟩ := oc_mod (wst (hd1 p) 10 + 0 + wst (hd2 p) (hd2 p).length) (by omega)
  generalize sumB (hdr p 0) = s at *
  omega
theorem enc_head (p : Pk) (ok : OkP p) : ∃ (a0 a1 a2 a3 : UInt8) (r : List UInt8), encP p = a0 :: a1 :: a2 :: a3 :: r ∧ a0.toNat = 64 + sizeP p.op.length / 4 ∧ a2.toNat * 256 + a3.toNat = sizeP p.op.length + p.da.length := by
  have hz : sizeP p.op.length ≤ 60 := by have := ok.ol; unfold sizeP; omega
  have hl := ok.len
  refine ⟨_, _, _, _, _, rfl, ?_, ?_⟩
  · simp only [Nat.reducePow, UInt8.toNat_ofNat']; omega
  · simp only [Nat.reducePow, UInt8.toNat_ofNat']; omega
theorem size_facts (p : Pk) (ok : OkP p) : 20 ≤ sizeP p.op.length ∧ sizeP p.op.length ≤ 60 ∧ sizeP p.op.length % 4 = 0 := by have := ok.ol; unfold sizeP; omega
theorem dec_cut (p : Pk) (ok : OkP p) (k : Nat) (hk : k < (encP p).length) : decF ((encP p).take k) = 2 := by
  obtain ⟨a0, a1, a2, a3, r, he, h0, h2⟩ := enc_head p ok
  obtain ⟨z1, z2, z3⟩ := size_facts p ok
  have hlen := encP_len p
  have hl : ((encP p).take k).length = k := by rw [List.length_take]; omega
  unfold decF
  rw [hl]
  by_cases hk20 : k < 20
  · rw [if_pos hk20]
  · rw [if_neg hk20]
    obtain ⟨j, rfl⟩ : ∃ j, k = j + 4 := ⟨k - 4, by omega⟩
    have ht : (encP p).take (j + 4) = a0 :: a1 :: a2 :: a3 :: r.take j := by rw [he]; rfl
    have hn : nF ((encP p).take (j + 4)) = sizeP p.op.length := by
      rw [ht]; show a0.toNat % 16 * 4 = _; omega
    have hw : wlF ((encP p).take (j + 4)) = sizeP p.op.length + p.da.length := by
      rw [ht]; show beN [a2, a3] = _; simp [beN]; omega
    have hb : ((encP p).take (j + 4)).getD 0 0 = a0 := by rw [ht]; rfl
    rw [hn, hw, hb, if_neg (by omega)]
    by_cases h3 : j + 4 < sizeP p.op.length
    · rw [if_pos h3]
    · rw [if_neg h3, if_neg (by omega), if_pos (by omega)]
theorem dec_turned (p : Pk) (ok : OkP p) (k : Nat) (v : UInt8) (hk0 : 1 ≤ k) (hk : k < sizeP p.op.length) (hv : v ≠ (encP p).getD k 0) : decF ((encP p).set k v) ≠ 0 := by
  obtain ⟨a0, a1, a2, a3, r, he, h0, h2⟩ := enc_head p ok
  obtain ⟨z1, z2, z3⟩ := size_facts p ok
  have hlen := encP_len p
  have hb : ((encP p).set k v).getD 0 0 = a0 := by
    rw [List.getD_eq_getElem?_getD, List.getElem?_set_ne (by omega), he]; rfl
  have hn : nF ((encP p).set k v) = sizeP p.op.length := by
    show (((encP p).set k v).getD 0 0).toNat % 16 * 4 = _; rw [hb]; omega
  have hs : sumB (((encP p).set k v).take (sizeP p.op.length)) ≠ 0 := by
    have e1 : (encP p).take (sizeP p.op.length) = hdr p (sumB (hdr p 0)) := by
      unfold encP
      rw [List.take_left' (by rw [hdr_len])]
    rw [List.take_set, e1]
    have hkl : k < (hdr p (sumB (hdr p 0))).length := by rw [hdr_len]; omega
    refine sum_turned _ k v hkl ?_ (hdr_sum p ok)
    intro e
    apply hv
    rw [e]
    unfold encP
    rw [List.getD_eq_getElem?_getD, List.getElem?_append_left hkl, List.getElem?_eq_getElem hkl]; rfl
  unfold decF
  rw [hn, hb, List.length_set, if_neg (by omega), if_neg (by omega), if_neg (by omega)]
  split
  · decide
  · split
    · decide
    · first | decide | (rw [if_pos hs]; decide)
end Go.Proofs.YthjpdaflgphbbaaDoor
