/-
  ResolveRefuses: for every code the law 'an answer of no such name is told as ErrNone, at once; one of a failing server has the next one asked' returns true.
-/
import Derived.Test.YtpfkmmmlocmakaaDoorRvHr
import Derived.Test.YtpfkmmmlocmakaaDoorRvZ
set_option linter.unusedVariables false
namespace Go.Proofs.YtpfkmmmlocmakaaDoor
open Go.RowKit Go.Maps

theorem flags_ok : ∀ n : Fin 16, bits .or .i64 32768 ((n.val : Nat) : Int) = 32768 + ((n.val : Nat) : Int) ∧ bits .and .i64 (32768 + ((n.val : Nat) : Int)) 32768 = 32768 ∧ bits .and .i64 (32768 + ((n.val : Nat) : Int)) 15 = ((n.val : Nat) : Int) := by decide +kernel
theorem ask_wrong {id fl : Int} {x : Rc} {Q A : Option Addr} {n m : Nat} (i0 : 0 ≤ id) (i1 : id ≤ 65535) (f0 : 0 ≤ fl) (f1 : fl ≤ 65535) (ht : x.t = 1) (hc : x.c = 1) (hs : isN x.nm.data.toList = true) : wrongI ⟨id, fl, [x], [], Q, A, n, m⟩ = 0 := by
  unfold wrongI
  have g1 : goodV id = true := by unfold goodV; simp [i0, i1]
  have g2 : goodV fl = true := by unfold goodV; simp [f0, f1]
  have b1 : badN [x] true = false := by unfold badN badR; simp [ht, hc]
  have b2 : badN ([] : List Rc) false = false := rfl
  simp only [g1, g2, b1, b2]
  simp [nmBad, hs]
theorem aRf : isN (⟨#[97]⟩ : ByteArray).data.toList = true := by decide +kernel
theorem row3f {w : World} {B : Nat} {D : Option Addr} {c : Nat} {d : Fd} (h : w.ownsRow B 39 3 (.slice D 1 c) 1 d.cs) : ∃ gd, D = some ⟨gd, 0, none⟩ ∧ B ≤ gd ∧ (∀ j u, d.cs[j]? = some u → w.cell? ⟨gd, j, none⟩ = some u) := by
  rcases h.2 with ⟨e, h0⟩ | ⟨g, cap, cur, e, hg, hh, h1, h2, h3, h4⟩
  · omega
  · injection e with e1 e2 e3
    refine ⟨g, e1, hg, fun j u hu => ?_⟩
    have hj : j < 3 := (List.getElem?_eq_some_iff.1 hu).1
    rw [Blk.cell (show Blk w g _ cur from hh), ← hu, ← h4, List.getElem?_take_of_lt (by omega), Array.getElem?_toList]
theorem encLen (id fl : Int) (x : Rc) (Q A : Option Addr) (n m : Nat) (h : QOk x) : (encM ⟨id, fl, [x], [], Q, A, n, m⟩).length ≤ 300 ∧ 0 < (encM ⟨id, fl, [x], [], Q, A, n, m⟩).length := by
  have h1 := qB_len h
  unfold encM
  rw [List.length_append, List.length_append, flat2_len]
  simp only [List.flatMap_cons, List.flatMap_nil, List.append_nil, List.length_nil]
  have h6l : (h6 ⟨id, fl, [x], [], Q, A, n, m⟩).length = 6 := rfl
  rw [h6l]
  omega
set_option maxRecDepth 100000 in
set_option maxHeartbeats 3200000 in
theorem refuses_walk (w : World) (code : Int) (hm : MaxL w) (hpos : 0 < w.heap.size) :
    Calls Tryd.prog 6 #[.int .i64 code] w fun e w' => e = .returned (.bool true) ∧ Below w.heap.size w w' := by
  have KN := Lib.hid (knownR w hm hpos)
  by_cases l1 : code < 1
  · go_enter Tryd.func6, Tryd.ntmps6
    go_wp2_with fail
    refine KN.out.mono ?_
    rintro e w1 ⟨rfl, b1⟩
    go_wp2
    go_ret
    exact ⟨rfl, b1⟩
  by_cases l2 : 15 < code
  · go_enter Tryd.func6, Tryd.ntmps6
    go_wp2_with fail
    refine KN.out.mono ?_
    rintro e w1 ⟨rfl, b1⟩
    go_wp2
    go_ret
    exact ⟨rfl, b1⟩
  clear KN
  obtain ⟨n, rfl⟩ : ∃ n : Nat, code = n := ⟨code.toNat, by omega⟩
  obtain ⟨fo, fa, fb⟩ := flags_ok ⟨n, by omega⟩
  simp only at fo fa fb
  obtain ⟨fl, hfl⟩ : ∃ fl : Int, 32768 + (n : Int) = fl := ⟨_, rfl⟩
  rw [hfl] at fo fa fb
  have HFL := Lib.hid hfl
  have FA := Lib.hid fa
  have FB := Lib.hid fb
  have b0 : Below w.heap.size w (w.alloc (.cells #[.int .u32 5, .int .u32 6] 33)) := al (rf w) _
  have HN := Lib.hid (newC (w.alloc (.cells #[.int .u32 5, .int .u32 6] 33)) (some ⟨w.heap.size, 0, none⟩) [5, 6] 2 9 (Reads.blk (blk_at _ _ _ rfl) rfl rfl) (by simp) (by simp) (by simp) (by omega) (by omega))
  have B0 := Lib.hid b0
  have HM := Lib.hid hm
  clear b0 hm hfl fa fb
  go_enter Tryd.func6, Tryd.ntmps6
  go_wp2_with fail
  refine HN.out.mono ?_
  rintro e w1 ⟨z, rb, rfl, hR, hK, hsv, hpo, hse, hqs, _, _, hag, b1⟩
  have B1 := Lib.hid (nx B0.out b1)
  have hz1 := b1.size
  have HSV := Lib.hid hsv
  have HPO := Lib.hid hpo
  have HSE := Lib.hid hse
  have HQS := Lib.hid hqs
  have HA := Lib.hid (askE w1 (w.alloc (.cells #[.int .u32 5, .int .u32 6] 33)).heap.size rb z ⟨#[97]⟩ 0 3 hR hK (HM.out.below B1.out hpos) (by rw [hqs]; decide) aRf (by decide) (by decide) (by rw [hsv]; decide) (by rw [hsv]; decide) (by omega) (by omega) (by omega) (by omega) b1.size (by simp) (by rw [hqs]; simp))
  clear hR hK hsv hpo hse hqs b1 HN hag
  unfold ptr
  go_wp2_with fail
  refine HA.out.mono ?_
  rintro e w2 ⟨g, QA, qc, A2, k2, hg, FA2, DA2, fc2, dc2, rfl, hR2, _, own2, _, hdd, _, b2⟩
  have B2 := Lib.hid (B1.out.trans (b2.mono (by simp)))
  have hz2 := b2.size
  obtain ⟨id, hid⟩ : ∃ id, idV 3 z.sent = id := ⟨_, rfl⟩
  have hidr := idV_le 3 z.sent
  rw [hid] at hR2 own2 hdd hidr
  obtain ⟨gd, rfl, _, hc⟩ := row5 (d := ⟨z.port, svAt z 0, askB id ⟨#[97]⟩, A2, k2⟩) (show w2.ownsRow w1.heap.size 36 5 (.slice DA2 1 dc2) 1 _ from own2)
  have c4 := hc 4 _ rfl
  have hby := hdd _ (List.mem_singleton.2 rfl)
  have hlen := encLen id 256 ⟨⟨#[97]⟩, 1, 1, 0, [], none, 0⟩ none none 1 0 ⟨aRf, by show (0 : Int) ≤ 1; omega, by show (1 : Int) ≤ 65535; omega, by show (0 : Int) ≤ 1; omega, by show (1 : Int) ≤ 65535; omega⟩
  obtain ⟨l, hl⟩ : ∃ l, askB id ⟨#[97]⟩ = l := ⟨_, rfl⟩
  rw [hl] at hby c4
  have hl2 : encM ⟨id, 256, [⟨⟨#[97]⟩, 1, 1, 0, [], none, 0⟩], [], none, none, 1, 0⟩ = l := hl
  rw [hl2] at hlen
  obtain ⟨ga, cap, hv, _, hga, hcap, _, cur, hcur, _, _⟩ := own_form (show w2.ownsRow w1.heap.size 5 1 (.slice A2 l.length k2) l.length _ from hby) hlen.2
  injection hv with hv1 _ hv3
  subst hv1 hv3
  have FD := decC w2 ⟨id, 256, [⟨⟨#[97]⟩, 1, 1, 0, [], none, 0⟩], [], none, none, 1, 0⟩ (ask_wrong hidr.1 hidr.2 (by omega) (by omega) rfl rfl aRf) (by simp) (by simp; decide) (by simp) [] l (by rw [List.append_nil, hl2]) ga 0 k2 (Bytes.own hby) (fun ad e => by injection e with e; subst e; exact ⟨cur, (0, 0), hcur⟩) (by omega) hcap
  have HFD := Lib.hid FD
  have HR2 := Lib.hid hR2
  have HID := Lib.hid hidr
  clear FD hby hcur hlen hl hl2 hc own2 hdd b2 hR2 hidr hid HA
  go_wp2_with fail
  refine HFD.out.mono ?_
  rintro e w3 ⟨M2, he, e1, e2, e3, e4, i4, b4⟩
  obtain ⟨id2, fl2, q2, a2, Q2, A3, n2, m2⟩ := M2
  have ea2 : a2 = [] := List.map_eq_nil_iff.1 e4
  simp only [List.map_cons, List.map_nil] at e1 e2 e3
  have e1 := e1.symm
  have e2 := e2.symm
  subst e1 e2 e3 ea2
  have he2 : e = .returned (.tuple #[.agg #[.int .i64 id, .int .i64 256, .slice Q2 1 n2, .slice A3 0 m2], .int .i64 0]) := by rw [he]; rfl
  subst he2
  have I3 := Lib.hid (i4 w3 (Nat.le_refl _) (fun _ _ _ => rfl))
  have B3 := Lib.hid (nx B2.out b4)
  have R3 := Lib.hid (HR2.out.nx b4)
  have MB := Lib.hid (Blk.new w3 43 #[.int .i64 id, .int .i64 256, .slice Q2 1 n2, .slice A3 0 m2])
  have hz3 := B3.out.size
  clear he e4 i4 b4 HFD
  go_wp2_with fail
  have kA : Below w3.heap.size w3 (w3.alloc (.cells #[.int .i64 id, .int .i64 fl, .slice Q2 1 n2, .slice A3 0 m2] 43)) := al (rf w3) _
  have I4 := I3.out.nx kA
  have I5 : IsM (w3.alloc (.cells #[.int .i64 id, .int .i64 fl, .slice Q2 1 n2, .slice A3 0 m2] 43)) ⟨id, fl, [(rqZ ⟨⟨#[97]⟩, 1, 1, 0, [], none, 0⟩)], [], Q2, A3, n2, m2⟩ := ⟨I4.q, I4.a, I4.qr, I4.ar, I4.ql, I4.al⟩
  have B4 := Lib.hid (nx B3.out kA)
  have R4 := Lib.hid (R3.out.nx kA)
  have hflr : 0 ≤ fl ∧ fl ≤ 65535 := by have := HFL.out; omega
  have HW3 : Hid (wrongI ⟨id, fl, [(rqZ ⟨⟨#[97]⟩, 1, 1, 0, [], none, 0⟩)], [], Q2, A3, n2, m2⟩ = 0) := ask_wrong HID.out.1 HID.out.2 hflr.1 hflr.2 rfl rfl aRf
  have FE := Lib.hid (encNC _ ⟨id, fl, [(rqZ ⟨⟨#[97]⟩, 1, 1, 0, [], none, 0⟩)], [], Q2, A3, n2, m2⟩ I5 (HM.out.below B4.out hpos))
  clear I4 I5 kA
  generalize (w3.alloc (.cells #[.int .i64 id, .int .i64 fl, .slice Q2 1 n2, .slice A3 0 m2] 43)) = w4 at B4 R4 FE ⊢
  refine FE.out.mono ?_
  rintro e w5 (⟨_, A5, c5, rfl, own5, b5⟩ | ⟨hz, _⟩)
  rotate_left
  · exact absurd HW3.out hz
  have hlen5 := encLen id fl (rqZ ⟨⟨#[97]⟩, 1, 1, 0, [], none, 0⟩) Q2 A3 n2 m2 ⟨aRf, by show (0 : Int) ≤ 1; omega, by show (1 : Int) ≤ 65535; omega, by show (0 : Int) ≤ 1; omega, by show (1 : Int) ≤ 65535; omega⟩
  obtain ⟨l5, hl5⟩ : ∃ l5, encM ⟨id, fl, [(rqZ ⟨⟨#[97]⟩, 1, 1, 0, [], none, 0⟩)], [], Q2, A3, n2, m2⟩ = l5 := ⟨_, rfl⟩
  rw [hl5] at own5 hlen5 ⊢
  have HL5 := Lib.hid hl5
  obtain ⟨ga5, cap5, hv5, _, _, hcap5, _, cur5, hcur5, _, _⟩ := own_form own5 hlen5.2
  injection hv5 with hv6 _ hv7
  subst hv6 hv7
  have B5 := Lib.hid (nx B4.out b5)
  have R5 := Lib.hid (R4.out.nx b5)
  have M5 := Lib.hid (HM.out.below B5.out hpos)
  have hb5z : (w.alloc (.cells #[.int .u32 5, .int .u32 6] 33)).heap.size ≤ w5.heap.size := Nat.le_trans R5.out.lo (Nat.le_of_lt R5.out.b.lt)
  have hs0 : (w.alloc (.cells #[.int .u32 5, .int .u32 6] 33)).heap.size = w.heap.size + 1 := by simp
  by_cases h3 : n = 3
  · have HH := Lib.hid (hearNone w5 (w.alloc (.cells #[.int .u32 5, .int .u32 6] 33)).heap.size rb g { z with sent := z.sent + 1, qs := z.qs ++ [(g, ⟨⟨#[97]⟩, ⟨#[97]⟩, 0, id, 0, 1, 0 + 50⟩)], QA := QA, qc := qc } ⟨⟨#[97]⟩, ⟨#[97]⟩, 0, id, 0, 1, 0 + 50⟩ ⟨id, fl, [(rqZ ⟨⟨#[97]⟩, 1, 1, 0, [], none, 0⟩)], [], Q2, A3, n2, m2⟩ (rqZ ⟨⟨#[97]⟩, 1, 1, 0, [], none, 0⟩) 5 0 1 0 (n : Int) l5 ga5 c5 R5.out (by show z.qs ++ _ = _; rw [HQS.out]; rfl) M5.out (by omega) (by simp) HW3.out rfl rfl rfl rfl (by show (⟨#[97]⟩ : ByteArray).size ≤ 3000; decide) HL5.out.symm (Bytes.own own5) (fun ad e => by injection e with e; subst e; exact ⟨cur5, (0, 0), hcur5⟩) (by omega) hcap5 FA.out FB.out rfl (Int.le_refl 0) (by show (0 : Int) < z.sv.length; rw [HSV.out]; decide) (by show (5 : Int) = svAt z 0; unfold svAt; rw [HSV.out]; rfl) (by show (low ⟨#[97]⟩ == low ⟨#[97]⟩) = true; exact beq_self_eq_true _) (by show (⟨#[97]⟩ : ByteArray).size ≤ 3000; decide) 9 HPO.out.symm (by rw [h3]; rfl))
    subst h3
    clear own5 hcur5 b5 hl5 hlen5
    go_wp2_with fail
    refine HH.out.mono ?_
    rintro e w6 ⟨Q6, q6, F6, D6, fc6, dc6, rfl, _, own6, _, _, _, _, b6⟩
    obtain ⟨gf, rfl, _, hc6⟩ := row3f (d := ⟨⟨#[97]⟩, 7, [], none, 0⟩) (show w6.ownsRow w5.heap.size 39 3 (.slice F6 1 fc6) 1 _ from own6)
    have cf1 := hc6 1 _ rfl
    have B6 := Lib.hid (B5.out.trans (b6.mono (by omega)))
    clear own6 b6 hc6 HH
    go_wp2_with fail
    refine (knownR _ (HM.out.below B6.out hpos) (by have := B6.out.size; omega)).mono ?_
    rintro e w7 ⟨rfl, b7⟩
    have B7 := Lib.hid (nx B6.out b7)
    clear b7
    go_wp2
    go_ret
    exact ⟨rfl, B7.out⟩
  · have HH := Lib.hid (hearOver w5 (w.alloc (.cells #[.int .u32 5, .int .u32 6] 33)).heap.size rb g { z with sent := z.sent + 1, qs := z.qs ++ [(g, ⟨⟨#[97]⟩, ⟨#[97]⟩, 0, id, 0, 1, 0 + 50⟩)], QA := QA, qc := qc } ⟨⟨#[97]⟩, ⟨#[97]⟩, 0, id, 0, 1, 0 + 50⟩ ⟨id, fl, [(rqZ ⟨⟨#[97]⟩, 1, 1, 0, [], none, 0⟩)], [], Q2, A3, n2, m2⟩ (rqZ ⟨⟨#[97]⟩, 1, 1, 0, [], none, 0⟩) 5 0 1 0 (n : Int) l5 ga5 c5 R5.out (by show z.qs ++ _ = _; rw [HQS.out]; rfl) M5.out (by omega) (by simp) HW3.out rfl rfl rfl rfl (by show (⟨#[97]⟩ : ByteArray).size ≤ 3000; decide) HL5.out.symm (Bytes.own own5) (fun ad e => by injection e with e; subst e; exact ⟨cur5, (0, 0), hcur5⟩) (by omega) hcap5 FA.out FB.out rfl (Int.le_refl 0) (by show (0 : Int) < z.sv.length; rw [HSV.out]; decide) (by show (5 : Int) = svAt z 0; unfold svAt; rw [HSV.out]; rfl) (by show (low ⟨#[97]⟩ == low ⟨#[97]⟩) = true; exact beq_self_eq_true _) (by show (⟨#[97]⟩ : ByteArray).size ≤ 3000; decide) 9 HPO.out.symm ⟨by omega, by omega⟩ 1 (by show (1 : Int) = (0 + 1) % (z.sv.length : Int); rw [HSV.out]; rfl) aRf (by show z.sv.length ≤ 3; rw [HSV.out]; decide) (by omega) (by omega) (by show (0 : Int) ≤ 1; omega) (by show (1 : Int) < 4; omega) (by show 0 ≤ z.sent + 1; rw [HSE.out]; decide) (by show z.sent + 1 ≤ _; rw [HSE.out]; decide))
    have hn3 : ((n : Int) == 3) = false := by rw [beq_eq_false_iff_ne]; omega
    clear own5 hcur5 b5 hl5 hlen5 h3
    go_wp2_with fail
    refine HH.out.mono ?_
    rintro e w6 ⟨A6, k6, F6, D6, fc6, dc6, rfl, _, _, own6, _, _, _, b6⟩
    obtain ⟨gd6, rfl, _, hc6⟩ := row5 (show w6.ownsRow w5.heap.size 36 5 (.slice D6 1 dc6) 1 (Dg.cs _) from own6)
    have cd2 := hc6 2 _ rfl
    have es : ∀ (a : Rz), a.sv = z.sv → svAt a 1 = 6 := fun a h => by unfold svAt; rw [h, HSV.out]; rfl
    simp only at cd2
    rw [es { z with sent := z.sent + 1, qs := z.qs ++ [(g, ⟨⟨#[97]⟩, ⟨#[97]⟩, 0, id, 0, 1, 0 + 50⟩)], QA := QA, qc := qc } rfl] at cd2
    have B6 := Lib.hid (B5.out.trans (b6.mono (by omega)))
    clear own6 b6 hc6 HH es
    go_wp2_with fail
    refine (knownR _ (HM.out.below B6.out hpos) (by have := B6.out.size; omega)).mono ?_
    rintro e w7 ⟨rfl, b7⟩
    have B7 := Lib.hid (nx B6.out b7)
    clear b7
    go_wp2
    go_ret
    exact ⟨rfl, B7.out⟩
end Go.Proofs.YtpfkmmmlocmakaaDoor
