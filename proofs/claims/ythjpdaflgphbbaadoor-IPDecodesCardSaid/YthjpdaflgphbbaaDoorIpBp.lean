/-
  IP, in plain Lean: what a packet is written as is read as it, with noughts behind its options.
-/
import Derived.Test.YthjpdaflgphbbaaDoorIpD2
import Derived.Test.YthjpdaflgphbbaaDoorIpS
set_option linter.unusedVariables false
namespace Go.Proofs.YthjpdaflgphbbaaDoor
open Go.RowKit

def padO (o : List UInt8) : List UInt8 := o ++ List.replicate (sizeP o.length - 20 - o.length) 0
def padP (p : Pk) : Pk := { p with op := padO p.op }
theorem padO_len (o : List UInt8) : (padO o).length = sizeP o.length - 20 := by
  unfold padO
  rw [List.length_append, List.length_replicate]; unfold sizeP; omega
theorem size_pad (o : List UInt8) : sizeP (padO o).length = sizeP o.length := by rw [padO_len]; unfold sizeP; omega
theorem gd_app (o z : List UInt8) (hz : ∀ x ∈ z, x = 0) : ∀ (n i : Nat), n = o.length - i → i ≤ o.length → gd o i = true → gd (o ++ z) i = true := by
  intro n
  induction n using Nat.strongRecOn with
  | _ n ih =>
    intro i hn hi h
    have tail : ∀ k, o.length ≤ k → (h : k < (o ++ z).length) → (o ++ z)[k] = 0 := by
      intro k hk h
      rw [List.getElem_append_right hk]
      exact hz _ (List.getElem_mem _)
    by_cases hlt : i < o.length
    · have hlt' : i < (o ++ z).length := by rw [List.length_append]; omega
      have e0 : (o ++ z)[i] = o[i] := List.getElem_append_left hlt
      by_cases h0 : o[i] = 0
      · rw [gd_zero hlt' (by rw [e0, h0])]
        rw [gd_zero hlt h0] at h
        apply all_zero_good
        intro k hk hik
        by_cases hko : k < o.length
        · rw [List.getElem_append_left hko]
          by_cases hk0 : o[k] = 0
          · exact hk0
          · rw [all_zero_bad hik hko hk0] at h; cases h
        · exact tail k (by omega) hk
      · by_cases h1 : o[i] = 1
        · rw [gd_one hlt' (by rw [e0, h1])]
          rw [gd_one hlt h1] at h
          exact ih (n - 1) (by omega) (i + 1) (by omega) (by omega) h
        · by_cases h2 : i + 1 < o.length
          · have h2' : i + 1 < (o ++ z).length := by rw [List.length_append]; omega
            have e1 : (o ++ z)[i + 1] = o[i + 1] := List.getElem_append_left h2
            by_cases h3 : o[i + 1].toNat < 2 ∨ o.length < i + o[i + 1].toNat
            · rw [gd_bad hlt h0 h1 h2 h3] at h; cases h
            · rw [gd_go hlt h0 h1 h2 h3] at h
              rw [gd_go hlt' (by rw [e0]; exact h0) (by rw [e0]; exact h1) h2' (by rw [e1, List.length_append]; omega), e1]
              exact ih (n - o[i + 1].toNat) (by omega) (i + o[i + 1].toNat) (by omega) (by omega) h
          · rw [gd_last hlt h0 h1 h2] at h; cases h
    · by_cases hz' : i < (o ++ z).length
      · rw [gd_zero hz' (tail i (by omega) hz')]
        exact all_zero_good (fun k hk hik => tail k (by omega) hk)
      · exact gd_end hz'
theorem gd_pad (o : List UInt8) (h : gd o 0 = true) : gd (padO o) 0 = true :=
  gd_app o _ (fun x hx => (List.mem_replicate.1 hx).2) _ 0 rfl (Nat.zero_le _) h
structure Enc20 (p : Pk) (a0 a1 a2 a3 a4 a5 a6 a7 a8 a9 a10 a11 a12 a13 a14 a15 a16 a17 a18 a19 : UInt8) : Prop where
  h0 : a0.toNat = 64 + sizeP p.op.length / 4
  h1 : a1.toNat = p.sv.toNat
  h2 : a2.toNat * 256 + a3.toNat = sizeP p.op.length + p.da.length
  h4 : a4.toNat * 256 + a5.toNat = p.id.toNat
  h6 : a6.toNat * 256 + a7.toNat = flP p
  h8 : a8.toNat = p.lf.toNat
  h9 : a9.toNat = p.pr.toNat
  hf : ((a12.toNat * 256 + a13.toNat) * 256 + a14.toNat) * 256 + a15.toNat = p.fr
  ht : ((a16.toNat * 256 + a17.toNat) * 256 + a18.toNat) * 256 + a19.toNat = p.to_
theorem flP_facts (p : Pk) (ok : OkP p) : flP p < 32768 ∧ decide (flP p / 16384 % 2 = 1) = p.wh ∧ decide (flP p / 8192 % 2 = 1) = p.mo ∧ ((flP p % 8192 * 8 : Nat) : Int) = p.off := by
  have h1 := ok.off
  have h2 := ok.o8
  unfold flP flA
  cases p.wh <;> cases p.mo <;> simp <;> omega
theorem enc_20 (p : Pk) (ok : OkP p) (hfr : p.fr < 4294967296) (hto : p.to_ < 4294967296) (more : List UInt8) : ∃ a0 a1 a2 a3 a4 a5 a6 a7 a8 a9 a10 a11 a12 a13 a14 a15 a16 a17 a18 a19, Enc20 p a0 a1 a2 a3 a4 a5 a6 a7 a8 a9 a10 a11 a12 a13 a14 a15 a16 a17 a18 a19 ∧
    encP p ++ more = [a0, a1, a2, a3, a4, a5, a6, a7, a8, a9, a10, a11, a12, a13, a14, a15, a16, a17, a18, a19] ++ (padO p.op ++ p.da ++ more) := by
  have hz : sizeP p.op.length ≤ 60 := by have := ok.ol; unfold sizeP; omega
  have hl := ok.len
  have hsv := ok.sv
  have hid := ok.id
  have hlf := ok.lf
  have hpr := ok.pr
  have hF := (flP_facts p ok).1
  have hE : encP p = hdr p (sumB (hdr p 0)) ++ p.da := rfl
  rw [hE]
  generalize sumB (hdr p 0) = S
  refine ⟨UInt8.ofNat ((64 + sizeP p.op.length / 4) / 256 ^ 0 % 256), UInt8.ofNat (p.sv.toNat / 256 ^ 0 % 256), UInt8.ofNat ((sizeP p.op.length + p.da.length) / 256 ^ 1 % 256), UInt8.ofNat ((sizeP p.op.length + p.da.length) / 256 ^ 0 % 256), UInt8.ofNat (p.id.toNat / 256 ^ 1 % 256), UInt8.ofNat (p.id.toNat / 256 ^ 0 % 256), UInt8.ofNat (flP p / 256 ^ 1 % 256), UInt8.ofNat (flP p / 256 ^ 0 % 256), UInt8.ofNat (p.lf.toNat / 256 ^ 0 % 256), UInt8.ofNat (p.pr.toNat / 256 ^ 0 % 256), UInt8.ofNat (S / 256 ^ 1 % 256), UInt8.ofNat (S / 256 ^ 0 % 256), UInt8.ofNat (p.fr / 256 ^ 3 % 256), UInt8.ofNat (p.fr / 256 ^ 2 % 256), UInt8.ofNat (p.fr / 256 ^ 1 % 256), UInt8.ofNat (p.fr / 256 ^ 0 % 256), UInt8.ofNat (p.to_ / 256 ^ 3 % 256), UInt8.ofNat (p.to_ / 256 ^ 2 % 256), UInt8.ofNat (p.to_ / 256 ^ 1 % 256), UInt8.ofNat (p.to_ / 256 ^ 0 % 256), ?_, ?eq⟩
  case eq =>
    unfold hdr hd1 hd2 padO
    simp only [beB, List.append_assoc, List.cons_append, List.nil_append]
  constructor
  all_goals
    simp only [Nat.reducePow, UInt8.toNat_ofNat']
    omega
theorem dec_enc (p : Pk) (ok : OkP p) (hfr : p.fr < 4294967296) (hto : p.to_ < 4294967296) (more : List UInt8) :
    decF (encP p ++ more) = 0 ∧ decPk (encP p ++ more) = padP p ∧ decG (encP p ++ more) = 0 ∧ nF (encP p ++ more) = sizeP p.op.length ∧ wlF (encP p ++ more) = sizeP p.op.length + p.da.length := by
  obtain ⟨z1, z2, z3⟩ := size_facts p ok
  have hsum : sumB ((encP p ++ more).take (sizeP p.op.length)) = 0 := by
    rw [show (encP p ++ more).take (sizeP p.op.length) = hdr p (sumB (hdr p 0)) by unfold encP; rw [List.append_assoc, List.take_left' (by rw [hdr_len])]]
    exact hdr_sum p ok
  have hlen : (encP p ++ more).length = sizeP p.op.length + p.da.length + more.length := by rw [List.length_append, encP_len]
  obtain ⟨f1, f2, f3, f4⟩ := flP_facts p ok
  obtain ⟨a0, a1, a2, a3, a4, a5, a6, a7, a8, a9, a10, a11, a12, a13, a14, a15, a16, a17, a18, a19, E, he⟩ := enc_20 p ok hfr hto more
  have hsv := ok.sv
  have hid := ok.id
  have hlf := ok.lf
  have hpr := ok.pr
  have hpl := padO_len p.op
  rw [he] at hsum hlen ⊢
  generalize hr : padO p.op ++ p.da ++ more = r at *
  have n1 : nF ([a0, a1, a2, a3, a4, a5, a6, a7, a8, a9, a10, a11, a12, a13, a14, a15, a16, a17, a18, a19] ++ r) = sizeP p.op.length := by
    show a0.toNat % 16 * 4 = _
    have := E.h0; omega
  have w1 : wlF ([a0, a1, a2, a3, a4, a5, a6, a7, a8, a9, a10, a11, a12, a13, a14, a15, a16, a17, a18, a19] ++ r) = sizeP p.op.length + p.da.length := by
    show beN [a2, a3] = _
    rw [← E.h2]; simp [beN]
  have b1 : bitsF ([a0, a1, a2, a3, a4, a5, a6, a7, a8, a9, a10, a11, a12, a13, a14, a15, a16, a17, a18, a19] ++ r) = flP p := by
    show beN [a6, a7] = _
    rw [← E.h6]; simp [beN]
  have g0 : ([a0, a1, a2, a3, a4, a5, a6, a7, a8, a9, a10, a11, a12, a13, a14, a15, a16, a17, a18, a19] ++ r).getD 0 0 = a0 := rfl
  have dF : decF ([a0, a1, a2, a3, a4, a5, a6, a7, a8, a9, a10, a11, a12, a13, a14, a15, a16, a17, a18, a19] ++ r) = 0 := by
    have := E.h0
    unfold decF
    rw [n1, w1, g0, hlen, if_neg (by omega), if_neg (by omega), if_neg (by omega), if_neg (by omega), if_neg (by omega), if_neg (by simpa using hsum)]
  have eop : (([a0, a1, a2, a3, a4, a5, a6, a7, a8, a9, a10, a11, a12, a13, a14, a15, a16, a17, a18, a19] ++ r).drop 20).take (sizeP p.op.length - 20) = padO p.op := by
    show r.take _ = _
    rw [← hr, List.append_assoc, List.take_left' hpl]
  have eda : (([a0, a1, a2, a3, a4, a5, a6, a7, a8, a9, a10, a11, a12, a13, a14, a15, a16, a17, a18, a19] ++ r).drop (sizeP p.op.length)).take (sizeP p.op.length + p.da.length - sizeP p.op.length) = p.da := by
    rw [Nat.add_sub_cancel_left, show sizeP p.op.length = 20 + (sizeP p.op.length - 20) by omega, ← List.drop_drop]
    show (r.drop _).take _ = _
    rw [← hr, List.append_assoc, List.drop_left' hpl, List.take_left' rfl]
  have dP : decPk ([a0, a1, a2, a3, a4, a5, a6, a7, a8, a9, a10, a11, a12, a13, a14, a15, a16, a17, a18, a19] ++ r) = padP p := by
    unfold decPk
    rw [n1, w1, b1, eop, eda, f2, f3, f4]
    have q1 : ((beN [a1] : Nat) : Int) = p.sv := by simp [beN, E.h1]; omega
    have q4 : ((beN [a4, a5] : Nat) : Int) = p.id := by have := E.h4; simp [beN]; omega
    have q8 : ((beN [a8] : Nat) : Int) = p.lf := by simp [beN, E.h8]; omega
    have q9 : ((beN [a9] : Nat) : Int) = p.pr := by simp [beN, E.h9]; omega
    have qf : beN [a12, a13, a14, a15] = p.fr := by rw [← E.hf]; simp [beN]
    have qt : beN [a16, a17, a18, a19] = p.to_ := by rw [← E.ht]; simp [beN]
    show Pk.mk ((beN [a1] : Nat) : Int) ((beN [a4, a5] : Nat) : Int) p.wh p.mo p.off ((beN [a8] : Nat) : Int) ((beN [a9] : Nat) : Int) (beN [a12, a13, a14, a15]) (beN [a16, a17, a18, a19]) (padO p.op) p.da = _
    rw [q1, q4, q8, q9, qf, qt]
    rfl
  refine ⟨dF, dP, ?_, n1, w1⟩
  unfold decG
  rw [b1, dP]
  have hin : inP (padP p) = true := by
    unfold inP padP
    simp only [size_pad]
    have h1 := ok.len
    have h2 := ok.off2
    simp only [Bool.and_eq_true, decide_eq_true_eq]
    exact ⟨h1, h2⟩
  rw [if_neg (by rw [show (padP p).op = padO p.op from rfl, gd_pad p.op ok.g]; simp; omega), if_neg (by rw [hin]; simp)]
end Go.Proofs.YthjpdaflgphbbaaDoor
