/-
  Names: the reference's Encode. Printed by gen_nmer.py.
-/
import Derived.Test.YtlojbnnmlpfnbaaDoorNmTl
set_option linter.unusedVariables false
namespace Go.Proofs.YtlojbnnmlpfnbaaDoor
open Go.RowKit

set_option maxRecDepth 100000 in
set_option maxHeartbeats 12800000 in
theorem rencNC (w : World) (M : Ms) (h : IsM w M) : Calls Tryd.prog 15 #[.agg #[.int .i64 M.id, .int .i64 M.fl, .slice M.Q M.q.length M.n, .slice M.A M.a.length M.m]] w (EncP M w) := by
  obtain ⟨Qa, hQa⟩ : ∃ Qa, M.Q = Qa := ⟨_, rfl⟩
  obtain ⟨Aa, hAa⟩ : ∃ Aa, M.A = Aa := ⟨_, rfl⟩
  have HQA := Lib.hid hQa
  have HAA := Lib.hid hAa
  rw [hQa, hAa]
  clear hQa hAa
  have X0 := Lib.hid (Blk.new w 36 #[.int .i64 M.id, .int .i64 M.fl, .slice Qa M.q.length M.n, .slice Aa M.a.length M.m])
  have B0 := Lib.hid (al (rf w) (.cells #[.int .i64 M.id, .int .i64 M.fl, .slice Qa M.q.length M.n, .slice Aa M.a.length M.m] 36))
  have HM := Lib.hid (h.nx B0.out)
  have hql := h.ql
  have hal := h.al
  have c2 : (w.alloc (.cells #[.int .i64 M.id, .int .i64 M.fl, .slice Qa M.q.length M.n, .slice Aa M.a.length M.m] 36)).cell? ⟨w.heap.size, 2, none⟩ = some (.slice Qa M.q.length M.n) := X0.out.cell 2
  clear h
  by_cases g0 : M.id < 0
  · have HR : Hid (wrongI M = 1) := by show _ = _; unfold wrongI goodV; rw [if_pos (by simp; omega)]
    go_enter Tryd.func15, Tryd.ntmps15
    go_wp2
    go_ret2
    exact .inr ⟨by rw [HR.out]; decide, by rw [HR.out]; rfl, B0.out⟩
  by_cases g1 : 65535 < M.id
  · have HR : Hid (wrongI M = 1) := by show _ = _; unfold wrongI goodV; rw [if_pos (by simp; omega)]
    go_enter Tryd.func15, Tryd.ntmps15
    go_wp2
    go_ret2
    exact .inr ⟨by rw [HR.out]; decide, by rw [HR.out]; rfl, B0.out⟩
  by_cases g2 : M.fl < 0
  · have HR : Hid (wrongI M = 1) := by show _ = _; unfold wrongI goodV; rw [if_pos (by simp; omega)]
    go_enter Tryd.func15, Tryd.ntmps15
    go_wp2
    go_ret2
    exact .inr ⟨by rw [HR.out]; decide, by rw [HR.out]; rfl, B0.out⟩
  by_cases g3 : 65535 < M.fl
  · have HR : Hid (wrongI M = 1) := by show _ = _; unfold wrongI goodV; rw [if_pos (by simp; omega)]
    go_enter Tryd.func15, Tryd.ntmps15
    go_wp2
    go_ret2
    exact .inr ⟨by rw [HR.out]; decide, by rw [HR.out]; rfl, B0.out⟩
  by_cases g4 : 64 < M.q.length
  · have HR : Hid (wrongI M = 1) := by show _ = _; unfold wrongI goodV; rw [if_pos (by simp; omega)]
    have i4 : (64 : Int) < M.q.length := by omega
    go_enter Tryd.func15, Tryd.ntmps15
    go_wp2
    go_ret2
    exact .inr ⟨by rw [HR.out]; decide, by rw [HR.out]; rfl, B0.out⟩
  have i4 : ¬ (64 : Int) < M.q.length := by omega
  by_cases g5 : 64 < M.a.length
  · have HR : Hid (wrongI M = 1) := by show _ = _; unfold wrongI goodV; rw [if_pos (by simp; omega)]
    have i5 : (64 : Int) < M.a.length := by omega
    go_enter Tryd.func15, Tryd.ntmps15
    go_wp2
    go_ret2
    exact .inr ⟨by rw [HR.out]; decide, by rw [HR.out]; rfl, B0.out⟩
  have i5 : ¬ (64 : Int) < M.a.length := by omega
  have HW : Hid (wrongI M = if badN M.q true = true ∨ badN M.a false = true then 1 else if (M.q.any fun r => nmBad r true) = true ∨ (M.a.any fun r => nmBad r false) = true then 9 else if (M.a.any fun r => decide (r.t = 1) && decide (r.da.length ≠ 4)) = true then 3 else if (M.a.any fun r => decide (65535 < r.da.length)) = true then 5 else 0) := by
    show _ = _; unfold wrongI; rw [if_neg (by unfold goodV; simp; omega)]
  go_enter Tryd.func15, Tryd.ntmps15
  go_wp2
  clear c2
  generalize hWW : w.alloc (.cells #[.int .i64 M.id, .int .i64 M.fl, .slice Qa M.q.length M.n, .slice Aa M.a.length M.m] 36) = W at X0 B0 HM ⊢
  clear hWW
  have hg0 := X0.out.lt
  have C0 : Hid (∀ wr, Below W.heap.size W wr → Blk wr w.heap.size 36 #[.int .i64 M.id, .int .i64 M.fl, .slice Qa M.q.length M.n, .slice Aa M.a.length M.m]) := fun wr k => X0.out.nx k
  have C2 : Hid (∀ wr, Below W.heap.size W wr → wr.cell? ⟨w.heap.size, 2, none⟩ = some (.slice Qa M.q.length M.n)) := fun wr k => (X0.out.nx k).cell 2
  have C3 : Hid (∀ wr, Below W.heap.size W wr → wr.cell? ⟨w.heap.size, 3, none⟩ = some (.slice Aa M.a.length M.m)) := fun wr k => (X0.out.nx k).cell 3
  go_loopw [4] (fun kv wr => ∃ k : Nat, kv = .int .i64 k ∧ k ≤ M.q.length ∧ Hid (Below W.heap.size W wr) ∧ Hid (∀ (j : Nat) (r : Rc), M.q[j]? = some r → j < k → (fun r => badR r.t r.c r.u true) r = false)) (fun kv _ => M.q.length - (intOf kv).toNat)
  case atStart => exact ⟨0, rfl, by omega, rf W, fun j r _ hk => by omega⟩
  case round =>
    obtain ⟨k, rfl, hk, HB, HK⟩ := hrel
    by_cases hlt : k < M.q.length
    · have HF : Hid (badN M.q true = true → wrongI M = 1) := fun h => by rw [HW.out, if_pos (.inl h)]
      obtain ⟨r, hr⟩ : ∃ r, M.q[k]? = some r := ⟨_, List.getElem?_eq_getElem hlt⟩
      obtain ⟨ad, hAd, hadb, hcell⟩ := rows_rc (HM.out.nx HB.out).q hr
      rw [HQA.out] at hAd
      subst hAd
      have HCELL : Hid (∀ j u, ([.string r.nm, .int .i64 r.t, .int .i64 r.c, .int .i64 r.u, .slice r.A r.da.length r.k] : List Value)[j]? = some u → wr.cell? ((ad.add (k * 5)).add j) = some u) := hcell
      have HRC := Lib.hid hr
      have k1 : (k : Int) < M.q.length := by omega
      have k0 : (0 : Int) ≤ k := by omega
      have e2 := C2.out wr HB.out
      have e3 := C3.out wr HB.out
      clear hcell hr hadb
      cases hb : badR r.t r.c r.u true
      · have HX := Lib.hid hb
        have hbi : badI r.t r.c r.u true = 0 := by unfold badI; rw [hb]; rfl
        go_wp2_with (with_reducible refine wpList_load_any rfl 43 (.tmp 56) rfl (ad.add (k * 5)) (by kernel_rfl) [.string r.nm, .int .i64 r.t, .int .i64 r.c, .int .i64 r.u, .slice r.A r.da.length r.k] _ HCELL.out Tryd.underlying43 (by kernel_rfl) (by kernel_rfl) ?_)
        refine (nmBadR _ r.nm r.t r.c r.u (.slice r.A r.da.length r.k) true).mono ?_
        rintro e w3 ⟨rfl, b3⟩
        rw [hbi]
        have HB3 := Lib.hid (nx HB.out b3)
        clear hb hbi b3 e2 e3
        have HN := Lib.hid (all_step (p := (fun r => badR r.t r.c r.u true)) HRC.out HK.out (HX.out))
        go_wp2
        go_roundw
        case rel =>
          first
            | exact ⟨k + 1, by go_num, by omega, HB3.out, HN.out⟩
            | ((repeat apply Exists.intro); refine ⟨?_, rfl⟩; exact ⟨k + 1, by go_num, by omega, HB3.out, HN.out⟩)
        case measure => simp [intOf]; omega
      · have HX := Lib.hid hb
        have hbi : badI r.t r.c r.u true = 1 := by unfold badI; rw [hb]; rfl
        go_wp2_with (with_reducible refine wpList_load_any rfl 43 (.tmp 56) rfl (ad.add (k * 5)) (by kernel_rfl) [.string r.nm, .int .i64 r.t, .int .i64 r.c, .int .i64 r.u, .slice r.A r.da.length r.k] _ HCELL.out Tryd.underlying43 (by kernel_rfl) (by kernel_rfl) ?_)
        refine (nmBadR _ r.nm r.t r.c r.u (.slice r.A r.da.length r.k) true).mono ?_
        rintro e w3 ⟨rfl, b3⟩
        rw [hbi]
        have HB3 := Lib.hid (nx HB.out b3)
        clear hb hbi b3 e2 e3
        have hbad := any_hit (p := (fun r => badR r.t r.c r.u true)) HRC.out (HX.out)
        have HR := Lib.hid (HF.out hbad)
        clear hbad
        go_wp2
        go_ret2
        exact .inr ⟨by rw [HR.out]; decide, by rw [HR.out]; rfl, nx B0.out HB3.out⟩
    · skip
      have hE := any_none (l := M.q) (p := (fun r => badR r.t r.c r.u true)) (fun j r hr => HK.out j r hr (by have := (List.getElem?_eq_some_iff.1 hr).1; omega))
      have HE := Lib.hid hE
      clear hE
      have e2 := C2.out wr HB.out
      have e3 := C3.out wr HB.out
      have hq1 := HE.out
      have HQ1 : Hid (badN M.q true = false) := hq1
      have HBs := Lib.hid HB.out
      clear hq1
      go_wp2
      clear e2 e3 HK HB hlt hk HE
      go_loopw [5] (fun kv wr => ∃ k : Nat, kv = .int .i64 k ∧ k ≤ M.a.length ∧ Hid (Below W.heap.size W wr) ∧ Hid (∀ (j : Nat) (r : Rc), M.a[j]? = some r → j < k → (fun r => badR r.t r.c r.u false) r = false)) (fun kv _ => M.a.length - (intOf kv).toNat)
      case atStart => exact ⟨0, rfl, by omega, HBs.out, fun j r _ hk => by omega⟩
      case round =>
        obtain ⟨k, rfl, hk, HB, HK⟩ := hrel
        by_cases hlt : k < M.a.length
        · have HF : Hid (badN M.a false = true → wrongI M = 1) := fun h => by rw [HW.out, if_pos (.inr h)]
          obtain ⟨r, hr⟩ : ∃ r, M.a[k]? = some r := ⟨_, List.getElem?_eq_getElem hlt⟩
          obtain ⟨ad, hAd, hadb, hcell⟩ := rows_rc (HM.out.nx HB.out).a hr
          rw [HAA.out] at hAd
          subst hAd
          have HCELL : Hid (∀ j u, ([.string r.nm, .int .i64 r.t, .int .i64 r.c, .int .i64 r.u, .slice r.A r.da.length r.k] : List Value)[j]? = some u → wr.cell? ((ad.add (k * 5)).add j) = some u) := hcell
          have HRC := Lib.hid hr
          have k1 : (k : Int) < M.a.length := by omega
          have k0 : (0 : Int) ≤ k := by omega
          have e2 := C2.out wr HB.out
          have e3 := C3.out wr HB.out
          clear hcell hr hadb
          cases hb : badR r.t r.c r.u false
          · have HX := Lib.hid hb
            have hbi : badI r.t r.c r.u false = 0 := by unfold badI; rw [hb]; rfl
            go_wp2_with (with_reducible refine wpList_load_any rfl 43 (.tmp 70) rfl (ad.add (k * 5)) (by kernel_rfl) [.string r.nm, .int .i64 r.t, .int .i64 r.c, .int .i64 r.u, .slice r.A r.da.length r.k] _ HCELL.out Tryd.underlying43 (by kernel_rfl) (by kernel_rfl) ?_)
            refine (nmBadR _ r.nm r.t r.c r.u (.slice r.A r.da.length r.k) false).mono ?_
            rintro e w3 ⟨rfl, b3⟩
            rw [hbi]
            have HB3 := Lib.hid (nx HB.out b3)
            clear hb hbi b3 e2 e3
            have HN := Lib.hid (all_step (p := (fun r => badR r.t r.c r.u false)) HRC.out HK.out (HX.out))
            go_wp2
            go_roundw
            case rel =>
              first
                | exact ⟨k + 1, by go_num, by omega, HB3.out, HN.out⟩
                | ((repeat apply Exists.intro); refine ⟨?_, rfl⟩; exact ⟨k + 1, by go_num, by omega, HB3.out, HN.out⟩)
            case measure => simp [intOf]; omega
          · have HX := Lib.hid hb
            have hbi : badI r.t r.c r.u false = 1 := by unfold badI; rw [hb]; rfl
            go_wp2_with (with_reducible refine wpList_load_any rfl 43 (.tmp 70) rfl (ad.add (k * 5)) (by kernel_rfl) [.string r.nm, .int .i64 r.t, .int .i64 r.c, .int .i64 r.u, .slice r.A r.da.length r.k] _ HCELL.out Tryd.underlying43 (by kernel_rfl) (by kernel_rfl) ?_)
            refine (nmBadR _ r.nm r.t r.c r.u (.slice r.A r.da.length r.k) false).mono ?_
            rintro e w3 ⟨rfl, b3⟩
            rw [hbi]
            have HB3 := Lib.hid (nx HB.out b3)
            clear hb hbi b3 e2 e3
            have hbad := any_hit (p := (fun r => badR r.t r.c r.u false)) HRC.out (HX.out)
            have HR := Lib.hid (HF.out hbad)
            clear hbad
            go_wp2
            go_ret2
            exact .inr ⟨by rw [HR.out]; decide, by rw [HR.out]; rfl, nx B0.out HB3.out⟩
        · skip
          have hE := any_none (l := M.a) (p := (fun r => badR r.t r.c r.u false)) (fun j r hr => HK.out j r hr (by have := (List.getElem?_eq_some_iff.1 hr).1; omega))
          have HE := Lib.hid hE
          clear hE
          have e2 := C2.out wr HB.out
          have e3 := C3.out wr HB.out
          have HW2 : Hid (wrongI M = if (M.q.any fun r => nmBad r true) = true ∨ (M.a.any fun r => nmBad r false) = true then 9 else if (M.a.any fun r => decide (r.t = 1) && decide (r.da.length ≠ 4)) = true then 3 else if (M.a.any fun r => decide (65535 < r.da.length)) = true then 5 else 0) := by show _ = _; rw [HW.out, if_neg (by rw [HQ1.out, show badN M.a false = false from HE.out]; simp)]
          have HBt := Lib.hid HB.out
          go_wp2
          clear e2 e3 HK HB hlt hk HE HBs HQ1
          go_loopw [6] (fun kv wr => ∃ k : Nat, kv = .int .i64 k ∧ k ≤ M.q.length ∧ Hid (Below W.heap.size W wr) ∧ Hid (∀ (j : Nat) (r : Rc), M.q[j]? = some r → j < k → (fun r => nmBad r true) r = false)) (fun kv _ => M.q.length - (intOf kv).toNat)
          case atStart => exact ⟨0, rfl, by omega, HBt.out, fun j r _ hk => by omega⟩
          case round =>
            obtain ⟨k, rfl, hk, HB, HK⟩ := hrel
            by_cases hlt : k < M.q.length
            · have HF : Hid ((M.q.any fun r => nmBad r true) = true → wrongI M = 9) := fun h => by rw [HW2.out, if_pos (.inl h)]
              obtain ⟨r, hr⟩ : ∃ r, M.q[k]? = some r := ⟨_, List.getElem?_eq_getElem hlt⟩
              obtain ⟨ad, hAd, hadb, hcell⟩ := rows_rc (HM.out.nx HB.out).q hr
              rw [HQA.out] at hAd
              subst hAd
              have HCELL : Hid (∀ j u, ([.string r.nm, .int .i64 r.t, .int .i64 r.c, .int .i64 r.u, .slice r.A r.da.length r.k] : List Value)[j]? = some u → wr.cell? ((ad.add (k * 5)).add j) = some u) := hcell
              have HRC := Lib.hid hr
              have k1 : (k : Int) < M.q.length := by omega
              have k0 : (0 : Int) ≤ k := by omega
              have e2 := C2.out wr HB.out
              have e3 := C3.out wr HB.out
              clear hcell hr hadb
              have hn3 := ((HM.out.nx HB.out).qr r (List.mem_of_getElem? HRC.out)).2.2.2
              have y0 : wr.cell? (ad.add (k * 5)) = some (.string r.nm) := by have := HCELL.out 0 _ rfl; simpa [Addr.add] using this
              cases hb : isN r.nm.data.toList
              · have HX : Hid (nmBad r true = true) := by show _ = _; unfold nmBad; rw [hb]; rfl
                go_wp2_with fail
                refine (isNameC r.nm _ (by omega)).mono ?_
                rintro e w3 ⟨rfl, b3⟩
                rw [hb]
                have HB3 := Lib.hid (nx HB.out b3)
                clear hb b3 e2 e3 y0
                have hbad := any_hit (p := (fun r => nmBad r true)) HRC.out (HX.out)
                have HR := Lib.hid (HF.out hbad)
                clear hbad
                go_wp2
                go_ret2
                exact .inr ⟨by rw [HR.out]; decide, by rw [HR.out]; rfl, nx B0.out HB3.out⟩
              · have HX : Hid (nmBad r true = false) := by show _ = _; unfold nmBad; rw [hb]; rfl
                go_wp2_with fail
                refine (isNameC r.nm _ (by omega)).mono ?_
                rintro e w3 ⟨rfl, b3⟩
                rw [hb]
                have HB3 := Lib.hid (nx HB.out b3)
                clear hb b3 e2 e3 y0
                have HN := Lib.hid (all_step (p := (fun r => nmBad r true)) HRC.out HK.out (HX.out))
                go_wp2
                go_roundw
                case rel =>
                  first
                    | exact ⟨k + 1, by go_num, by omega, HB3.out, HN.out⟩
                    | ((repeat apply Exists.intro); refine ⟨?_, rfl⟩; exact ⟨k + 1, by go_num, by omega, HB3.out, HN.out⟩)
                case measure => simp [intOf]; omega
            · skip
              have hE := any_none (l := M.q) (p := (fun r => nmBad r true)) (fun j r hr => HK.out j r hr (by have := (List.getElem?_eq_some_iff.1 hr).1; omega))
              have HE := Lib.hid hE
              clear hE
              have e2 := C2.out wr HB.out
              have e3 := C3.out wr HB.out
              have HQ3 : Hid ((M.q.any fun r => nmBad r true) = false) := HE.out
              have HBu := Lib.hid HB.out
              go_wp2
              clear e2 e3 HK HB hlt hk HE HBt
              go_loopw [7] (fun kv wr => ∃ k : Nat, kv = .int .i64 k ∧ k ≤ M.a.length ∧ Hid (Below W.heap.size W wr) ∧ Hid (∀ (j : Nat) (r : Rc), M.a[j]? = some r → j < k → (fun r => nmBad r false) r = false)) (fun kv _ => M.a.length - (intOf kv).toNat)
              case atStart => exact ⟨0, rfl, by omega, HBu.out, fun j r _ hk => by omega⟩
              case round =>
                obtain ⟨k, rfl, hk, HB, HK⟩ := hrel
                by_cases hlt : k < M.a.length
                · have HF : Hid ((M.a.any fun r => nmBad r false) = true → wrongI M = 9) := fun h => by rw [HW2.out, if_pos (.inr h)]
                  obtain ⟨r, hr⟩ : ∃ r, M.a[k]? = some r := ⟨_, List.getElem?_eq_getElem hlt⟩
                  obtain ⟨ad, hAd, hadb, hcell⟩ := rows_rc (HM.out.nx HB.out).a hr
                  rw [HAA.out] at hAd
                  subst hAd
                  have HCELL : Hid (∀ j u, ([.string r.nm, .int .i64 r.t, .int .i64 r.c, .int .i64 r.u, .slice r.A r.da.length r.k] : List Value)[j]? = some u → wr.cell? ((ad.add (k * 5)).add j) = some u) := hcell
                  have HRC := Lib.hid hr
                  have k1 : (k : Int) < M.a.length := by omega
                  have k0 : (0 : Int) ≤ k := by omega
                  have e2 := C2.out wr HB.out
                  have e3 := C3.out wr HB.out
                  clear hcell hr hadb
                  obtain ⟨hby, _, hd3, hn3⟩ := (HM.out.nx HB.out).ar r (List.mem_of_getElem? HRC.out)
                  have HB1 : Hid (Below W.heap.size W (wr.alloc (.cells #[.string r.nm, .int .i64 r.t, .int .i64 r.c, .int .i64 r.u, .slice r.A r.da.length r.k] 43))) := al HB.out _
                  have XR := Lib.hid (Blk.new wr 43 #[.string r.nm, .int .i64 r.t, .int .i64 r.c, .int .i64 r.u, .slice r.A r.da.length r.k])
                  clear hby
                  cases hb : isN r.nm.data.toList
                  · have HX : Hid (nmBad r false = true) := by show _ = _; unfold nmBad; rw [hb]; rfl
                    go_wp2_with (with_reducible refine wpList_load_any rfl 43 (.tmp 99) rfl (ad.add (k * 5)) (by kernel_rfl) [.string r.nm, .int .i64 r.t, .int .i64 r.c, .int .i64 r.u, .slice r.A r.da.length r.k] _ HCELL.out Tryd.underlying43 (by kernel_rfl) (by kernel_rfl) ?_)
                    refine (isNameC r.nm _ (by omega)).mono ?_
                    rintro e w3 ⟨rfl, b3⟩
                    rw [hb]
                    have HB3 := Lib.hid (nx HB1.out b3)
                    clear hb b3 e2 e3
                    have hbad := any_hit (p := (fun r => nmBad r false)) HRC.out (HX.out)
                    have HR := Lib.hid (HF.out hbad)
                    clear hbad
                    go_wp2
                    go_ret2
                    exact .inr ⟨by rw [HR.out]; decide, by rw [HR.out]; rfl, nx B0.out HB3.out⟩
                  · have HY : Hid (nmBad r false = (decide (r.t = 5) && !isN r.da)) := by show _ = _; unfold nmBad; rw [hb]; simp
                    go_wp2_with (with_reducible refine wpList_load_any rfl 43 (.tmp 99) rfl (ad.add (k * 5)) (by kernel_rfl) [.string r.nm, .int .i64 r.t, .int .i64 r.c, .int .i64 r.u, .slice r.A r.da.length r.k] _ HCELL.out Tryd.underlying43 (by kernel_rfl) (by kernel_rfl) ?_)
                    refine (isNameC r.nm _ (by omega)).mono ?_
                    rintro e w3 ⟨rfl, b3⟩
                    rw [hb]
                    have HB3 := Lib.hid (nx HB1.out b3)
                    have x1 : w3.cell? ⟨wr.heap.size, 1, none⟩ = some (.int .i64 r.t) := (XR.out.nx b3).cell 1
                    have x4 : w3.cell? ⟨wr.heap.size, 4, none⟩ = some (.slice r.A r.da.length r.k) := (XR.out.nx b3).cell 4
                    have hcv := convStr w3 r.A r.da r.da.length r.k ((HM.out.nx HB3.out).ar r (List.mem_of_getElem? HRC.out)).1 rfl
                    clear hb b3 e2 e3
                    by_cases t5 : r.t = 5
                    · have r5 : ((r.t : Int) == 5) = true := by rw [beq_iff_eq]; exact t5
                      cases hb : isN r.da
                      · have HX : Hid (nmBad r false = true) := by show _ = _; rw [HY.out, hb]; simp [t5]
                        have hb2 : isN (⟨r.da.toArray⟩ : ByteArray).data.toList = false := by simpa using hb
                        clear t5 hb
                        go_wp2_with fail
                        refine (isNameC ⟨r.da.toArray⟩ _ (by show r.da.toArray.size ≤ _; rw [List.size_toArray]; omega)).mono ?_
                        rintro e w4 ⟨rfl, b4⟩
                        rw [hb2]
                        have HB4 := Lib.hid (nx HB3.out b4)
                        clear hb2 b4 x1 x4 hcv
                        have hbad := any_hit (p := (fun r => nmBad r false)) HRC.out (HX.out)
                        have HR := Lib.hid (HF.out hbad)
                        clear hbad
                        go_wp2
                        go_ret2
                        exact .inr ⟨by rw [HR.out]; decide, by rw [HR.out]; rfl, nx B0.out HB4.out⟩
                      · have HX : Hid (nmBad r false = false) := by show _ = _; rw [HY.out, hb]; simp [t5]
                        have hb2 : isN (⟨r.da.toArray⟩ : ByteArray).data.toList = true := by simpa using hb
                        clear t5 hb
                        go_wp2_with fail
                        refine (isNameC ⟨r.da.toArray⟩ _ (by show r.da.toArray.size ≤ _; rw [List.size_toArray]; omega)).mono ?_
                        rintro e w4 ⟨rfl, b4⟩
                        rw [hb2]
                        have HB4 := Lib.hid (nx HB3.out b4)
                        clear hb2 b4 x1 x4 hcv
                        have HN := Lib.hid (all_step (p := (fun r => nmBad r false)) HRC.out HK.out (HX.out))
                        go_wp2
                        go_roundw
                        case rel =>
                          first
                            | exact ⟨k + 1, by go_num, by omega, HB4.out, HN.out⟩
                            | ((repeat apply Exists.intro); refine ⟨?_, rfl⟩; exact ⟨k + 1, by go_num, by omega, HB4.out, HN.out⟩)
                        case measure => simp [intOf]; omega
                    · have r5 : ((r.t : Int) == 5) = false := by rw [beq_eq_false_iff_ne]; exact t5
                      have HX : Hid (nmBad r false = false) := by show _ = _; rw [HY.out]; simp [t5]
                      clear t5 hcv
                      have HN := Lib.hid (all_step (p := (fun r => nmBad r false)) HRC.out HK.out (HX.out))
                      go_wp2
                      go_roundw
                      case rel =>
                        first
                          | exact ⟨k + 1, by go_num, by omega, HB3.out, HN.out⟩
                          | ((repeat apply Exists.intro); refine ⟨?_, rfl⟩; exact ⟨k + 1, by go_num, by omega, HB3.out, HN.out⟩)
                      case measure => simp [intOf]; omega
                · skip
                  have hE := any_none (l := M.a) (p := (fun r => nmBad r false)) (fun j r hr => HK.out j r hr (by have := (List.getElem?_eq_some_iff.1 hr).1; omega))
                  have HE := Lib.hid hE
                  clear hE
                  have e2 := C2.out wr HB.out
                  have e3 := C3.out wr HB.out
                  have HW3 : Hid (wrongI M = if (M.a.any fun r => decide (r.t = 1) && decide (r.da.length ≠ 4)) = true then 3 else if (M.a.any fun r => decide (65535 < r.da.length)) = true then 5 else 0) := by show _ = _; rw [HW2.out, if_neg (by rw [HQ3.out, show (M.a.any fun r => nmBad r false) = false from HE.out]; simp)]
                  have HBv := Lib.hid HB.out
                  go_wp2
                  clear e2 e3 HK HB hlt hk HE HBu HQ3
                  go_loopw [9] (fun kv wr => ∃ k : Nat, kv = .int .i64 k ∧ k ≤ M.a.length ∧ Hid (Below W.heap.size W wr) ∧ Hid (∀ (j : Nat) (r : Rc), M.a[j]? = some r → j < k → (fun r => decide (r.t = 1) && decide (r.da.length ≠ 4)) r = false)) (fun kv _ => M.a.length - (intOf kv).toNat)
                  case atStart => exact ⟨0, rfl, by omega, HBv.out, fun j r _ hk => by omega⟩
                  case round =>
                    obtain ⟨k, rfl, hk, HB, HK⟩ := hrel
                    by_cases hlt : k < M.a.length
                    · have HF : Hid ((M.a.any (fun r => decide (r.t = 1) && decide (r.da.length ≠ 4))) = true → wrongI M = 3) := fun h => by rw [HW3.out, if_pos h]
                      obtain ⟨r, hr⟩ : ∃ r, M.a[k]? = some r := ⟨_, List.getElem?_eq_getElem hlt⟩
                      obtain ⟨ad, hAd, hadb, hcell⟩ := rows_rc (HM.out.nx HB.out).a hr
                      rw [HAA.out] at hAd
                      subst hAd
                      have HCELL : Hid (∀ j u, ([.string r.nm, .int .i64 r.t, .int .i64 r.c, .int .i64 r.u, .slice r.A r.da.length r.k] : List Value)[j]? = some u → wr.cell? ((ad.add (k * 5)).add j) = some u) := hcell
                      have HRC := Lib.hid hr
                      have k1 : (k : Int) < M.a.length := by omega
                      have k0 : (0 : Int) ≤ k := by omega
                      have e2 := C2.out wr HB.out
                      have e3 := C3.out wr HB.out
                      clear hcell hr hadb
                      have y1 : wr.cell? ⟨(ad.add (k * 5)).block, (ad.add (k * 5)).off + 1, none⟩ = some (.int .i64 r.t) := HCELL.out 1 _ rfl
                      have y4 : wr.cell? ⟨(ad.add (k * 5)).block, (ad.add (k * 5)).off + 4, none⟩ = some (.slice r.A r.da.length r.k) := HCELL.out 4 _ rfl
                      by_cases t1 : r.t = 1
                      · have r1 : ((r.t : Int) == 1) = true := by rw [beq_iff_eq]; exact t1
                        by_cases d4 : r.da.length = 4
                        · have r4 : (((r.da.length : Nat) : Int) != 4) = false := by rw [bne_eq_false_iff_eq]; omega
                          have HX : Hid ((decide (r.t = 1) && decide (r.da.length ≠ 4)) = false) := by show _ = _; simp [d4]
                          clear t1 d4
                          have HN := Lib.hid (all_step (p := (fun r => decide (r.t = 1) && decide (r.da.length ≠ 4))) HRC.out HK.out (HX.out))
                          go_wp2
                          go_roundw
                          case rel =>
                            first
                              | exact ⟨k + 1, by go_num, by omega, HB.out, HN.out⟩
                              | ((repeat apply Exists.intro); refine ⟨?_, rfl⟩; exact ⟨k + 1, by go_num, by omega, HB.out, HN.out⟩)
                          case measure => simp [intOf]; omega
                        · have r4 : (((r.da.length : Nat) : Int) != 4) = true := by rw [bne_iff_ne]; omega
                          have HX : Hid ((decide (r.t = 1) && decide (r.da.length ≠ 4)) = true) := by show _ = _; simp [t1, d4]
                          clear t1 d4
                          have hbad := any_hit (p := (fun r => decide (r.t = 1) && decide (r.da.length ≠ 4))) HRC.out (HX.out)
                          have HR := Lib.hid (HF.out hbad)
                          clear hbad
                          go_wp2
                          go_ret2
                          exact .inr ⟨by rw [HR.out]; decide, by rw [HR.out]; rfl, nx B0.out HB.out⟩
                      · have r1 : ((r.t : Int) == 1) = false := by rw [beq_eq_false_iff_ne]; exact t1
                        have HX : Hid ((decide (r.t = 1) && decide (r.da.length ≠ 4)) = false) := by show _ = _; simp [t1]
                        clear t1
                        have HN := Lib.hid (all_step (p := (fun r => decide (r.t = 1) && decide (r.da.length ≠ 4))) HRC.out HK.out (HX.out))
                        go_wp2
                        go_roundw
                        case rel =>
                          first
                            | exact ⟨k + 1, by go_num, by omega, HB.out, HN.out⟩
                            | ((repeat apply Exists.intro); refine ⟨?_, rfl⟩; exact ⟨k + 1, by go_num, by omega, HB.out, HN.out⟩)
                        case measure => simp [intOf]; omega
                    · skip
                      have hE := any_none (l := M.a) (p := (fun r => decide (r.t = 1) && decide (r.da.length ≠ 4))) (fun j r hr => HK.out j r hr (by have := (List.getElem?_eq_some_iff.1 hr).1; omega))
                      have HE := Lib.hid hE
                      clear hE
                      have e2 := C2.out wr HB.out
                      have e3 := C3.out wr HB.out
                      have HW4 : Hid (wrongI M = if (M.a.any fun r => decide (65535 < r.da.length)) = true then 5 else 0) := by show _ = _; rw [HW3.out, if_neg (by rw [show (M.a.any (fun r => decide (r.t = 1) && decide (r.da.length ≠ 4))) = false from HE.out]; simp)]
                      have HBx := Lib.hid HB.out
                      go_wp2
                      clear e2 e3 HK HB hlt hk HE HBv
                      go_loopw [10] (fun kv wr => ∃ k : Nat, kv = .int .i64 k ∧ k ≤ M.a.length ∧ Hid (Below W.heap.size W wr) ∧ Hid (∀ (j : Nat) (r : Rc), M.a[j]? = some r → j < k → (fun r => decide (65535 < r.da.length)) r = false)) (fun kv _ => M.a.length - (intOf kv).toNat)
                      case atStart => exact ⟨0, rfl, by omega, HBx.out, fun j r _ hk => by omega⟩
                      case round =>
                        obtain ⟨k, rfl, hk, HB, HK⟩ := hrel
                        by_cases hlt : k < M.a.length
                        · skip
                          obtain ⟨r, hr⟩ : ∃ r, M.a[k]? = some r := ⟨_, List.getElem?_eq_getElem hlt⟩
                          obtain ⟨ad, hAd, hadb, hcell⟩ := rows_rc (HM.out.nx HB.out).a hr
                          rw [HAA.out] at hAd
                          subst hAd
                          have HCELL : Hid (∀ j u, ([.string r.nm, .int .i64 r.t, .int .i64 r.c, .int .i64 r.u, .slice r.A r.da.length r.k] : List Value)[j]? = some u → wr.cell? ((ad.add (k * 5)).add j) = some u) := hcell
                          have HRC := Lib.hid hr
                          have k1 : (k : Int) < M.a.length := by omega
                          have k0 : (0 : Int) ≤ k := by omega
                          have e2 := C2.out wr HB.out
                          have e3 := C3.out wr HB.out
                          clear hcell hr hadb
                          have y4 : wr.cell? ⟨(ad.add (k * 5)).block, (ad.add (k * 5)).off + 4, none⟩ = some (.slice r.A r.da.length r.k) := HCELL.out 4 _ rfl
                          have hd3 := ((HM.out.nx HB.out).ar r (List.mem_of_getElem? HRC.out)).2.2.1
                          have i6 : ¬ (65535 : Int) < r.da.length := by omega
                          have HX : Hid (decide (65535 < r.da.length) = false) := by show _ = _; rw [decide_eq_false_iff_not]; omega
                          have HN := Lib.hid (all_step (p := (fun r => decide (65535 < r.da.length))) HRC.out HK.out (HX.out))
                          go_wp2
                          go_roundw
                          case rel =>
                            first
                              | exact ⟨k + 1, by go_num, by omega, HB.out, HN.out⟩
                              | ((repeat apply Exists.intro); refine ⟨?_, rfl⟩; exact ⟨k + 1, by go_num, by omega, HB.out, HN.out⟩)
                          case measure => simp [intOf]; omega
                        · skip
                          have hE := any_none (l := M.a) (p := (fun r => decide (65535 < r.da.length))) (fun j r hr => HK.out j r hr (by have := (List.getElem?_eq_some_iff.1 hr).1; omega))
                          have HE := Lib.hid hE
                          clear hE
                          have e2 := C2.out wr HB.out
                          have e3 := C3.out wr HB.out
                          have HZ : Hid (wrongI M = 0) := by show _ = _; rw [HW4.out, if_neg (by rw [HE.out]; simp)]
                          have HBy := Lib.hid HB.out
                          clear HW HW2 HW3 HW4 HE HK HBx
                          have c0 : wr.cell? ⟨w.heap.size, 0, none⟩ = some (.int .i64 M.id) := (C0.out wr HBy.out).cell 0
                          have c1 : wr.cell? ⟨w.heap.size, 1, none⟩ = some (.int .i64 M.fl) := (C0.out wr HBy.out).cell 1
                          have OK := Lib.hid (mok_of HZ.out)
                          have hwr : w.heap.size < wr.heap.size := Nat.lt_of_lt_of_le hg0 HBy.out.size
                          go_wp2
                          clear c0 c1 e2 e3
                          have KK : Hid (∀ w', Below wr.heap.size wr w' → (w'.cell? ⟨w.heap.size, 0, none⟩ = some (.int .i64 M.id) ∧ w'.cell? ⟨w.heap.size, 1, none⟩ = some (.int .i64 M.fl))) := fun w' h => ⟨((C0.out wr HBy.out).nx h).cell 0, ((C0.out wr HBy.out).nx h).cell 1⟩
                          have tok1 : True := trivial
                          go_region_held3 (fun w' => w'.cell? ⟨w.heap.size, 0, none⟩ = some (.int .i64 M.id) ∧ w'.cell? ⟨w.heap.size, 1, none⟩ = some (.int .i64 M.fl))
                            (first | exact KK.out _ (rf wr).drew | exact KK.out _ BA2 | exact KK.out _ BA3 | exact KK.out _ BA4 | fail)
                            (first
                              | (go_at_call 33; have _t := tok1; refine (nm_rtwo _ M.id g0 g1).mono ?_; rintro e w2 ⟨rfl, o2, b2⟩; have BA2 : Below wr.heap.size wr w2 := (rf wr).drew.trans (b2.mono (by simp)); have O2 : w2.ownsRow wr.heap.size 5 1 _ 2 (Lib.byteCells (beB M.id.toNat 2)) := own_base o2 (by simp); clear tok1 _t)
                              | (go_at_call 33; refine (nm_rtwo _ M.fl g2 g3).mono ?_; rintro e w3 ⟨rfl, o3, b3⟩; have BA3 : Below wr.heap.size wr w3 := BA2.trans (b3.mono BA2.size); have O3 := own_nx O2 b3)
                              | (refine step_app stB rfl (.tmp 158) (.tmp 161) rfl wr.heap.size _ 2 _ rfl O3 _ 2 2 (Lib.byteCells (beB M.fl.toNat 2)) rfl (two_bytes o3) (one_u8 _) (by omega) (by omega) BA3.size ?_; intro v4 w4 own4 gr4 at4 bel4; have BA4 : Below wr.heap.size wr w4 := BA3.trans bel4)
                              | fail)
                          all_goals
                            have e4 : Lib.byteCells (beB M.id.toNat 2) ++ Lib.byteCells (beB M.fl.toNat 2) = Lib.byteCells (beB M.id.toNat 2 ++ beB M.fl.toNat 2) := (byteCells_app _ _).symm
                            rw [e4] at own4
                            obtain ⟨A4, k4, rfl⟩ := own_slice own4
                            have OW4 := Lib.hid own4
                            have B4 := Lib.hid BA4
                            clear own4 gr4 at4 bel4 BA4 BA3 BA2 O3 O2 o2 o3 b2 b3 e4 KK
                            have K2 : Hid (∀ w', Below wr.heap.size wr w' → (w'.cell? ⟨w.heap.size, 2, none⟩ = some (.slice Qa M.q.length M.n) ∧ w'.cell? ⟨w.heap.size, 3, none⟩ = some (.slice Aa M.a.length M.m))) := fun w' h => ⟨((C0.out wr HBy.out).nx h).cell 2, ((C0.out wr HBy.out).nx h).cell 3⟩
                            have tok2 : True := trivial
                            have tok3 : True := trivial
                            go_wp2
                            go_region_held3 (fun w' => w'.cell? ⟨w.heap.size, 2, none⟩ = some (.slice Qa M.q.length M.n) ∧ w'.cell? ⟨w.heap.size, 3, none⟩ = some (.slice Aa M.a.length M.m))
                              (first | exact K2.out _ (B4.out.trans (Below.refl _ _).drew) | exact K2.out _ BA5 | exact K2.out _ BA6 | exact K2.out _ BA7 | exact K2.out _ BA8 | fail)
                              (first
                                | (go_at_call 33; have _t := tok2; refine (nm_rtwo _ (M.q.length : Nat) (by omega) (by omega)).mono ?_; rintro e w5 ⟨rfl, o5, b5⟩; have BA5 : Below wr.heap.size wr w5 := (B4.out.trans (Below.refl _ _).drew).trans (b5.mono (B4.out.trans (Below.refl _ _).drew).size); have O5 := own_nx OW4.out.drew b5; clear tok2 _t)
                                | (refine step_app stB rfl (.tmp 163) (.tmp 167) rfl wr.heap.size _ 4 _ rfl O5 _ 2 2 (Lib.byteCells (beB (M.q.length : Int).toNat 2)) rfl (two_bytes o5) (one_u8 _) (by omega) (by omega) BA5.size ?_; intro v6 w6 own6 gr6 at6 bel6; have BA6 : Below wr.heap.size wr w6 := BA5.trans bel6; obtain ⟨A6, k6, rfl⟩ := own_slice own6)
                                | (go_at_call 33; refine (nm_rtwo _ (M.a.length : Nat) (by omega) (by omega)).mono ?_; rintro e w7 ⟨rfl, o7, b7⟩; have BA7 : Below wr.heap.size wr w7 := BA6.trans (b7.mono BA6.size); have O7 := own_nx own6 b7)
                                | (refine step_app stB rfl (.tmp 168) (.tmp 172) rfl wr.heap.size _ _ _ rfl O7 _ 2 2 (Lib.byteCells (beB (M.a.length : Int).toNat 2)) rfl (two_bytes o7) (one_u8 _) (by omega) (by omega) BA7.size ?_; intro v8 w8 own8 gr8 at8 bel8; have BA8 : Below wr.heap.size wr w8 := BA7.trans bel8; obtain ⟨A8, k8, rfl⟩ := own_slice own8)
                                | fail)
                            all_goals
                              have KWR := Lib.hid (IsM.nx HM.out (HBy.out))
                              have XW := Lib.hid (X0.out.nx HBy.out)
                              have HB0 := Lib.hid (B0.out.trans (HBy.out.mono B0.out.size))
                              have BB8 := Lib.hid BA8
                              have OO8 : Hid (w8.ownsRow wr.heap.size 5 1 (.slice A8 8 k8) 8 (Lib.byteCells (beB M.id.toNat 2 ++ beB M.fl.toNat 2) ++ Lib.byteCells (beB (M.q.length : Int).toNat 2) ++ Lib.byteCells (beB (M.a.length : Int).toNat 2))) := own8
                              refine (by assumption : ∀ (a : Act) (w' : World), Code.wp Tryd.prog _ _ a w' → Exit.then _ _ .normal a w') _ _ ?_
                              exact rtail w wr w8 M Qa Aa w.heap.size A8 k8 HQA HAA KWR XW HB0 BB8 OO8 HZ OK _ _ _ _ _ _ _ _ _ _ _ _ _ _ _ _ _ _ _ _ _ _ _ _ _ _ _ _ _ _ _ _ _ _ _ _ _ _ _ _ _ _ _ _ _ _ _ _ _ _ _ _ _ _ _ _ _ _ _ _ _ _ _ _ _ _ _ _ _ _ _ _ _ _ _ _ _ _ _ _ _ _ _ _ _ _ _ _ _ _ _ _ _ _ _ _ _ _ _ _ _ _ _ _ _ _ _ _ _ _ _ _ _ _ _ _ _ _ _ _ _ _ _ _ _ _ _ _ _ _ _ _ _ _ _ _ _ _ _ _ _ _ _ _ _ _ _ _ _ _ _ _ _ _ _ _ _ _ _ _ _ _ _ _ _ _ _ _ _ _ _ _ _ _ _ _ _ _ _ _ _ _ _ _ _ _ _ _ _ _ _ _ _ _ _ _ _ _ _ _ _ _ _ _ _ _ _ _ _ _ _ _ _ _ _ _ _ _ _ _ _ _ _ _ _ _ _ _ _ _ _
end Go.Proofs.YtlojbnnmlpfnbaaDoor
