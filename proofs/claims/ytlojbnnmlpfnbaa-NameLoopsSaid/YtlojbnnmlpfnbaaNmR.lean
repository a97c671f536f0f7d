/-
  Names: the reference's Unpack: at every place of every row of bytes it returns what the plain function says.
-/
import Derived.Test.YtlojbnnmlpfnbaaNmP
set_option linter.unusedVariables false
namespace Go.Proofs.Ytlojbnnmlpfnbaa
open Go.RowKit

theorem str_ne {s : ByteArray} (h : 0 < s.size) : (!s.toList.isEmpty) = true := by
  rw [ByteArray.toList_eq]
  cases hs : s.data.toList with
  | nil => have := str_len s; rw [hs] at this; simp at this; omega
  | cons a l => rfl
theorem str_eq {s : ByteArray} (h : s.size = 0) : (!s.toList.isEmpty) = false := by
  rw [ByteArray.toList_eq]
  cases hs : s.data.toList with
  | nil => rfl
  | cons a l => have := str_len s; rw [hs] at this; simp at this; omega
theorem sz_mk (l : List UInt8) : (⟨l.toArray⟩ : ByteArray).size = l.length := rfl
theorem jn_first (x : List UInt8) : (⟨(jn []).toArray⟩ : ByteArray) ++ ⟨x.toArray⟩ = ⟨(jn ([] ++ [x])).toArray⟩ := by
  rw [bytes_app, List.nil_append, jn_one]; rfl
theorem jn_more (ls : List (List UInt8)) (x : List UInt8) (h : ls ≠ []) : (⟨(jn ls).toArray⟩ : ByteArray) ++ ⟨#[46]⟩ ++ ⟨x.toArray⟩ = ⟨(jn (ls ++ [x])).toArray⟩ := by
  have e : (⟨#[46]⟩ : ByteArray) = ⟨([46] : List UInt8).toArray⟩ := rfl
  rw [e, bytes_app, bytes_app, jn_app ls x h, List.append_assoc]
  rfl
set_option maxHeartbeats 1600000 in
set_option maxRecDepth 20000 in
theorem rUnpC (g o : Nat) (b : List UInt8) (c i0 : Nat) (w : World) (hb : Bytes w (some ⟨g, o, none⟩) b) (hl : b.length ≤ 1000000) (hc : b.length ≤ c) (hi0 : i0 ≤ 2000000) (R : List (List UInt8) × Int × Int) (hR : Hid (unp b i0 i0 (-1) [] = R)) :
    Calls Try.prog 7 #[.slice (some ⟨g, o, none⟩) b.length c, .int .i64 i0] w (NmR R w) := by
  by_cases hin : i0 < b.length
  · have j0 : decide ((i0 : Int) < 0) = false := by rw [decide_eq_false_iff_not]; omega
    have j1 : decide (b.length ≤ i0) = false := by rw [decide_eq_false_iff_not]; omega
    go_enter Try.func7, Try.ntmps7
    go_wp2
    go_loopw [7, 8, 9, 10] (fun s bg i bh wr => ∃ (i' bg' : Nat) (bh' : Int) (sv : ByteArray) (ls : List (List UInt8)), i = .int .i64 i' ∧ s = .string sv ∧ bg = .int .i64 bg' ∧ bh = .int .i64 bh' ∧ Hid (sv = ⟨(jn ls).toArray⟩) ∧
        Hid (unp b i' bg' bh' ls = R) ∧ Below w.heap.size w wr ∧ Hid (szL ls ≤ 254) ∧ Hid (∀ x ∈ ls, x ≠ []) ∧ i' ≤ 2000000 ∧ bg' ≤ 2000000 ∧ -1 ≤ bh' ∧ bh' ≤ 3000000) (fun _ bg i _ _ => (intOf bg).toNat * (b.length + 1) + (b.length - (intOf i).toNat))
    case atStart => exact ⟨i0, i0, -1, ⟨#[]⟩, [], rfl, rfl, rfl, rfl, rfl, hR, rf w, show szL [] ≤ 254 by decide, by show ∀ x ∈ ([] : List (List UInt8)), x ≠ []; simp, hi0, hi0, by omega, by omega⟩
    case round =>
      obtain ⟨i, bg, bh, sv, ls, rfl, rfl, rfl, rfl, HS, HU, bel, HL, HE, hi, hbg, hbh, hbh2⟩ := hrel
      by_cases hlt : i < b.length
      · obtain ⟨ad, hA, _, hc1⟩ := (hb.nx bel).at_ hlt
        injection hA with hA
        subst hA
        rw [Addr.add_mid] at hc1
        have k0 : (0 : Int) ≤ i := by omega
        have k1 : (i : Int) < b.length := by omega
        have b1 := b[i].toNat_lt
        generalize hx : b[i].toNat = n at hc1 b1
        have HN := Lib.hid hx; clear hx
        have bw := Lib.hid (hb.nx bel)
        by_cases hn0 : n = 0
        · have z0 : ((n : Int) == 0) = true := by rw [beq_iff_eq]; omega
          by_cases hneg : bh < 0
          · go_wp2
            refine bodyPost_ret (results_tmp3 rfl _ _ _) rfl ?_
            have hr := HU.out.symm.trans (unp_end b i bg bh ls hlt (by rw [HN.out]; exact hn0))
            rw [if_pos (by omega)] at hr
            rw [hr, HS.out]
            exact ⟨rfl, bel⟩
          · go_wp2
            refine bodyPost_ret (results_tmp3 rfl _ _ _) rfl ?_
            have hr := HU.out.symm.trans (unp_end b i bg bh ls hlt (by rw [HN.out]; exact hn0))
            rw [if_neg (by omega)] at hr
            rw [hr, HS.out]
            exact ⟨rfl, bel⟩
        · have z0 : ((n : Int) == 0) = false := by rw [beq_eq_false_iff_ne]; omega
          by_cases h192 : 192 ≤ n
          · have q0 : (192 : Int) ≤ n := by omega
            by_cases hcut : b.length ≤ i + 1
            · have q1 : (b.length : Int) ≤ (i : Int) + 1 := by omega
              go_wp2
              refine bodyPost_ret (results_tmp3 rfl _ _ _) rfl ?_
              exact NmR.bad (HU.out.symm.trans (unp_cut b i bg bh ls hlt (by rw [HN.out]; exact h192) hcut)) rfl bel
            · have q1 : ¬ (b.length : Int) ≤ (i : Int) + 1 := by omega
              obtain ⟨ad, hA, _, hc2⟩ := bw.out.at_ (show i + 1 < b.length by omega)
              injection hA with hA
              subst hA
              rw [Addr.add_mid] at hc2
              have b2 := b[i + 1].toNat_lt
              generalize hx2 : b[i + 1].toNat = n2 at hc2 b2
              have HN2 := Lib.hid hx2; clear hx2
              obtain ⟨p, hp⟩ : ∃ p : Nat, (n - 192) * 256 + n2 = p := ⟨_, rfl⟩
              have hpi : (((n : Int) - 192) * 256 + (n2 : Int)) = (p : Int) := by omega
              have hp2 : p ≤ 16383 := by omega
              have HP := Lib.hid hp; clear hp
              by_cases hloop : bg ≤ p
              · have q2 : (bg : Int) ≤ p := by omega
                go_wp2
                refine bodyPost_ret (results_tmp3 rfl _ _ _) rfl ?_
                exact NmR.bad (HU.out.symm.trans (unp_loop b i bg bh ls hlt (by rw [HN.out]; exact h192) (by omega) (by rw [HN.out, HN2.out, HP.out]; exact hloop))) rfl bel
              · have q2 : ¬ (bg : Int) ≤ p := by omega
                have hnext := HU.out.symm.trans (unp_lead b i bg bh ls hlt (by rw [HN.out]; exact h192) (by omega) (by rw [HN.out, HN2.out, HP.out]; omega))
                rw [HN.out, HN2.out, HP.out] at hnext
                have HNX := Lib.hid hnext; clear hnext
                have hmul := Nat.mul_le_mul_right (b.length + 1) (show p + 1 ≤ bg by omega)
                rw [Nat.succ_mul] at hmul
                by_cases hneg : bh < 0
                · have HNG := Lib.hid hneg
                  go_wp2
                  go_roundw
                  case rel => exact ⟨p, p, i + 2, sv, ls, rfl, rfl, rfl, rfl, HS, by have := HNX.out.symm; rw [if_pos HNG.out] at this; exact this, bel, HL, HE, by omega, by omega, by omega, by omega⟩
                  case measure => simp [intOf]; omega
                · have HNG := Lib.hid hneg
                  go_wp2
                  go_roundw
                  case rel => exact ⟨p, p, bh, sv, ls, rfl, rfl, rfl, rfl, HS, by have := HNX.out.symm; rw [if_neg HNG.out] at this; exact this, bel, HL, HE, by omega, by omega, by omega, by omega⟩
                  case measure => simp [intOf]; omega
          · have q0 : ¬ (192 : Int) ≤ n := by omega
            by_cases h63 : n ≤ 63
            · have m0 : ¬ (63 : Int) < n := by omega
              by_cases hsh : b.length < i + 1 + n
              · have m1 : (b.length : Int) < (i : Int) + 1 + n := by omega
                go_wp2
                refine bodyPost_ret (results_tmp3 rfl _ _ _) rfl ?_
                exact NmR.bad (HU.out.symm.trans (unp_short b i bg bh ls hlt (by rw [HN.out]; exact hn0) (by rw [HN.out]; exact h63) (by rw [HN.out]; exact hsh))) rfl bel
              · have m1 : ¬ (b.length : Int) < (i : Int) + 1 + n := by omega
                have hX2 : ((b.drop (i + 1)).take n).length = n := by rw [List.length_take, List.length_drop]; omega
                have hX3 : ∀ q, i + 1 ≤ q → q < i + 1 + n → (hk2 : q < b.length) → b[q] ∈ (b.drop (i + 1)).take n := fun q h1 h2 hk2 => by
                  rw [List.mem_iff_getElem]
                  refine ⟨q - (i + 1), by rw [hX2]; omega, ?_⟩
                  simp only [List.getElem_take, List.getElem_drop]
                  congr 1; omega
                have hX4 : (46 : UInt8) ∈ (b.drop (i + 1)).take n → ∃ q, ∃ (hk : q < b.length), i + 1 ≤ q ∧ q < i + 1 + n ∧ b[q] = 46 := fun h => by
                  obtain ⟨k, hk, he⟩ := List.mem_iff_getElem.1 h
                  rw [hX2] at hk
                  exact ⟨i + 1 + k, by omega, by omega, by omega, by rw [← he]; simp⟩
                have HX2 := Lib.hid hX2; clear hX2
                have HX3 := Lib.hid hX3; clear hX3
                have HX4 := Lib.hid hX4; clear hX4
                have hbx := sub_bytes bw.out (i + 1) n (by omega)
                have hcv := run_convert_bytes_back (P := Try.prog) wr 22 9 5 ⟨g, o + (i + 1), none⟩ (c - (i + 1)) ((b.drop (i + 1)).take n) Try.underlying22 Try.underlying5 Try.underlying9 (fun j hj => by
                  obtain ⟨ad, hA, _, h3⟩ := hbx.at_ hj
                  injection hA with hA
                  subst hA
                  exact h3)
                rw [HX2.out] at hcv
                clear hbx
                generalize hXX : (b.drop (i + 1)).take n = X at HX2 HX3 HX4 hcv
                have HCV := Lib.hid hcv; clear hcv
                have HXX := Lib.hid hXX; clear hXX
                by_cases h46 : 46 ∈ X
                · have H46 := Lib.hid h46; clear h46
                  go_wp2
                  go_loopw [13] (fun kv w2 => ∃ q : Nat, i + 1 ≤ q ∧ q ≤ i + 1 + n ∧ kv = .int .i64 (q : Int) ∧ w2 = wr ∧ Hid (∀ j, (h : j < b.length) → i + 1 ≤ j → j < q → b[j] ≠ 46)) (fun kv _ => i + 1 + n - (intOf kv).toNat)
                  case atStart => exact ⟨i + 1, by omega, by omega, congrArg (Value.int .i64) (by omega), rfl, fun j _ h1 h2 => absurd h1 (by omega)⟩
                  case round =>
                    obtain ⟨q, hq1, hq2, rfl, rfl, HK⟩ := hrel
                    by_cases hq : q < i + 1 + n
                    · obtain ⟨ad, hA, _, hc3⟩ := bw.out.at_ (show q < b.length by omega)
                      injection hA with hA
                      subst hA
                      rw [Addr.add_mid] at hc3
                      have b3 := (b[q]'(by omega)).toNat_lt
                      have g0 : (0 : Int) ≤ q := by omega
                      have g1 : (q : Int) < b.length := by omega
                      have g2 : (q : Int) ≤ (i : Int) + n := by omega
                      generalize hx3 : (b[q]'(by omega)).toNat = v at hc3 b3
                      have HV := Lib.hid hx3; clear hx3
                      by_cases hv : v = 46
                      · have y0 : ((v : Int) == 46) = true := by rw [beq_iff_eq]; omega
                        clear hv
                        go_wp2
                        refine bodyPost_ret (results_tmp3 rfl _ _ _) rfl ?_
                        exact NmR.bad (HU.out.symm.trans (unp_name b i bg bh ls hlt (by rw [HN.out]; exact hn0) (by rw [HN.out]; exact h63) (by rw [HN.out]; exact hsh) (by rw [HN.out, HXX.out]; exact .inl H46.out))) rfl bel
                      · have y0 : ((v : Int) == 46) = false := by rw [beq_eq_false_iff_ne]; omega
                        have HVN := Lib.hid hv; clear hv
                        go_wp2
                        go_roundw
                        case rel => exact ⟨q + 1, by omega, by omega, by go_num, trivial, fun j h h1 h2 => by
                          by_cases hj : j < q
                          · exact HK.out j h h1 hj
                          · obtain rfl : j = q := by omega
                            intro he
                            exact HVN.out (by rw [← HV.out, he]; rfl)⟩
                        case measure => simp [intOf]; omega
                    · exfalso
                      obtain ⟨j, h1, h2, h3, h4⟩ := HX4.out H46.out
                      exact HK.out j h1 h2 (by omega) h4
                · have H46 := Lib.hid h46; clear h46
                  go_wp2
                  go_loopw [13] (fun kv w2 => ∃ q : Nat, i + 1 ≤ q ∧ q ≤ i + 1 + n ∧ kv = .int .i64 (q : Int) ∧ w2 = wr) (fun kv _ => i + 1 + n - (intOf kv).toNat)
                  case atStart => exact ⟨i + 1, by omega, by omega, congrArg (Value.int .i64) (by omega), rfl⟩
                  case round =>
                    obtain ⟨q, hq1, hq2, rfl, rfl⟩ := hrel
                    by_cases hq : q < i + 1 + n
                    · obtain ⟨ad, hA, _, hc3⟩ := bw.out.at_ (show q < b.length by omega)
                      injection hA with hA
                      subst hA
                      rw [Addr.add_mid] at hc3
                      have b3 := (b[q]'(by omega)).toNat_lt
                      have g0 : (0 : Int) ≤ q := by omega
                      have g1 : (q : Int) < b.length := by omega
                      have g2 : (q : Int) ≤ (i : Int) + n := by omega
                      have hv : (b[q]'(by omega)).toNat ≠ 46 := fun he => H46.out (by
                        have h1 := HX3.out q hq1 hq (by omega)
                        have h2 : b[q]'(by omega) = 46 := UInt8.toNat_inj.1 (he.trans rfl)
                        rwa [h2] at h1)
                      generalize hx3 : (b[q]'(by omega)).toNat = v at hc3 b3 hv
                      have y0 : ((v : Int) == 46) = false := by rw [beq_eq_false_iff_ne]; omega
                      clear hv hx3
                      go_wp2
                      go_roundw
                      case rel => exact ⟨q + 1, by omega, by omega, by go_num, trivial⟩
                      case measure => simp [intOf]; omega
                    · have g2 : ¬ (q : Int) ≤ (i : Int) + n := by omega
                      have n2 : i + 1 + n ≤ c := by omega
                      have m2 : (i : Int) + 1 ≤ (i : Int) + 1 + n := by omega
                      have m3 : (i : Int) + 1 + n ≤ c := by omega
                      have m4 : ¬ (c : Int) = (i : Int) + 1 := by omega
                      have hcv := HCV.out
                      have hxs : (⟨X.toArray⟩ : ByteArray).size = n := (sz_mk X).trans HX2.out
                      generalize hXS : (⟨X.toArray⟩ : ByteArray) = xs at hcv hxs
                      have HXS := Lib.hid hXS; clear hXS
                      by_cases hE : ls = []
                      · subst hE
                        have hs0 : sv.size = 0 := by rw [HS.out, sz_mk]; rfl
                        have hne := str_eq hs0
                        have hnext := HU.out.symm.trans (unp_label b i bg bh [] hlt (by rw [HN.out]; exact hn0) (by rw [HN.out]; exact h63) (by rw [HN.out]; exact hsh) (by rw [HN.out, HXX.out]; rintro (h | h); exact H46.out h; have e0 : szL [] = 0 := rfl; omega))
                        rw [HN.out, HXX.out] at hnext
                        have HNX := Lib.hid hnext; clear hnext
                        go_wp2
                        go_roundw
                        case rel => exact ⟨i + 1 + n, bg, bh, sv ++ xs, [] ++ [X], congrArg (Value.int .i64) (by omega), rfl, rfl, rfl, by show _ = _; rw [HS.out, ← HXS.out]; exact jn_first X, HNX.out.symm, bel, by show szL _ ≤ _; rw [szL_app, HX2.out]; have e0 : szL [] = 0 := rfl; omega, by show ∀ x ∈ _, _; intro x hx; rw [List.nil_append, List.mem_singleton] at hx; subst hx; intro h0; have := HX2.out; rw [h0] at this; exact hn0 this.symm, by omega, by omega, by omega, by omega⟩
                        case measure => simp [intOf]; omega
                      · have hs1 : sv.size + 1 = szL ls := by rw [HS.out, sz_mk]; exact jn_len ls hE
                        have hs2 : sv.size ≤ 253 := by have := HL.out; omega
                        have hs3 : 0 < sv.size := by
                          rw [HS.out, sz_mk]
                          cases hl2 : ls with
                          | nil => exact absurd hl2 hE
                          | cons y r =>
                            have := HE.out y (by rw [hl2]; exact List.mem_cons_self)
                            unfold jn; rw [Lib.join_cons, List.length_append]
                            have := List.length_pos_iff.2 this
                            omega
                        have hne := str_ne hs3
                        have HS1 := Lib.hid hs1; clear hs1
                        have HEE := Lib.hid hE; clear hE
                        by_cases hlong : 254 < szL ls + n + 1
                        · have l1 : 253 < sv.size + 1 + n := by have := HS1.out; omega
                          have HLG := Lib.hid hlong; clear hlong
                          go_wp2
                          refine bodyPost_ret (results_tmp3 rfl _ _ _) rfl ?_
                          exact NmR.bad (HU.out.symm.trans (unp_name b i bg bh ls hlt (by rw [HN.out]; exact hn0) (by rw [HN.out]; exact h63) (by rw [HN.out]; exact hsh) (by rw [HN.out]; exact .inr HLG.out))) rfl bel
                        · have l1 : ¬ 253 < sv.size + 1 + n := by have := HS1.out; omega
                          have hnext := HU.out.symm.trans (unp_label b i bg bh ls hlt (by rw [HN.out]; exact hn0) (by rw [HN.out]; exact h63) (by rw [HN.out]; exact hsh) (by rw [HN.out, HXX.out]; rintro (h | h); exact H46.out h; exact hlong h))
                          rw [HN.out, HXX.out] at hnext
                          have HNX := Lib.hid hnext; clear hnext
                          have HLG := Lib.hid hlong; clear hlong
                          go_wp2
                          go_roundw
                          case rel => exact ⟨i + 1 + n, bg, bh, sv ++ ⟨#[46]⟩ ++ xs, ls ++ [X], congrArg (Value.int .i64) (by omega), rfl, rfl, rfl, by show _ = _; rw [HS.out, ← HXS.out]; exact jn_more ls X HEE.out, HNX.out.symm, bel, by show szL _ ≤ _; rw [szL_app, HX2.out]; have := HLG.out; omega, by show ∀ x ∈ _, _; intro x hx; rcases List.mem_append.1 hx with hx | hx; exact HE.out x hx; rw [List.mem_singleton] at hx; subst hx; intro h0; have := HX2.out; rw [h0] at this; exact hn0 this.symm, by omega, by omega, by omega, by omega⟩
                          case measure => simp [intOf]; omega
            · have m0 : (63 : Int) < n := by omega
              go_wp2
              refine bodyPost_ret (results_tmp3 rfl _ _ _) rfl ?_
              exact NmR.bad (HU.out.symm.trans (unp_form b i bg bh ls hlt (by rw [HN.out]; omega) (by rw [HN.out]; omega))) rfl bel
      · have k1 : (b.length : Int) ≤ i := by omega
        go_wp2
        refine bodyPost_ret (results_tmp3 rfl _ _ _) rfl ?_
        exact NmR.bad (HU.out.symm.trans (unp_past b i bg bh ls (by omega))) rfl bel
  · have hR0 := hR.out.symm.trans (unp_past b i0 i0 (-1) [] (by omega))
    have j0 : ¬ (i0 : Int) < 0 := by omega
    have j1 : (b.length : Int) ≤ i0 := by omega
    clear hin
    have HR0 := Lib.hid hR0; clear hR0
    go_enter Try.func7, Try.ntmps7
    go_wp2
    refine bodyPost_ret (results_tmp3 rfl _ _ _) rfl ?_
    exact NmR.bad HR0.out rfl (rf _)
end Go.Proofs.Ytlojbnnmlpfnbaa
