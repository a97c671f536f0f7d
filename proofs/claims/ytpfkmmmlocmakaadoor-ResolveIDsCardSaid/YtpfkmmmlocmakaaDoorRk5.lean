/-
  ResolveChases: a line of leads in plain Lean, and the walk (merged).
-/
import Derived.Test.YtpfkmmmlocmakaaDoorRk3
import Derived.Test.YtpfkmmmlocmakaaDoorRk2
import Derived.Test.YtpfkmmmlocmakaaDoorRvZ
set_option linter.unusedVariables false
namespace Go.Proofs.YtpfkmmmlocmakaaDoor
section
open Go.RowKit Go.Maps

def PT : Type := List UInt8 × List UInt8 × Bool × List Int × Int
instance : DecidableEq PT := inferInstanceAs (DecidableEq (List UInt8 × List UInt8 × Bool × List Int × Int))
def Pe.tup (p : Pe) : PT := (p.key.data.toList, p.cname.data.toList, p.leads, p.ad, p.behind)
theorem tup_inj {l m : List Pe} (h : l.map Pe.tup = m.map Pe.tup) : l = m := by
  have e : ∀ l : List Pe, l = (l.map Pe.tup).map fun t : PT => ⟨⟨t.1.toArray⟩, ⟨t.2.1.toArray⟩, t.2.2.1, t.2.2.2.1, t.2.2.2.2⟩ := fun l => by
    rw [List.map_map]
    conv => lhs; rw [← List.map_id l]
    apply List.map_congr_left
    intro p _
    rfl
  rw [e l, e m, h]
def nmB (i : Nat) : ByteArray := ⟨#[UInt8.ofNat (97 + i)]⟩
def leadR (i : Nat) : Rc := ⟨nmB i, 5, 1, 9, [UInt8.ofNat (97 + i + 1)], none, 0⟩
def lastR (n : Nat) : Rc := ⟨nmB n, 1, 1, 9, [0, 0, 0, 77], none, 0⟩
def leadP (i : Nat) : Pe := ⟨nmB i, nmB (i + 1), true, [], 91⟩
def lastP (n : Nat) : Pe := ⟨nmB n, ⟨#[]⟩, false, [77], 91⟩
def rsN (n : Nat) : List Rc := (List.range n).map leadR ++ [lastR n]
def TN (n : Nat) : List Pe := (List.range n).map leadP ++ [lastP n]
theorem keep_N0 : ∀ n : Fin 21, (keepL 1 [] (rsN n.val)).map Pe.tup = (TN n.val).map Pe.tup := by decide +kernel
theorem keep_N {n : Nat} (h : n ≤ 20) : keepL 1 [] (rsN n) = TN n := tup_inj (keep_N0 ⟨n, by omega⟩)
theorem pair_N0 : ∀ n : Fin 21, ((TN n.val).Pairwise fun a b => a.key ≠ b.key) ∧ (TN n.val).length ≤ 64 := by decide +kernel
theorem pair_N {n : Nat} (h : n ≤ 20) : ((TN n).Pairwise fun a b => a.key ≠ b.key) ∧ (TN n).length ≤ 64 := pair_N0 ⟨n, by omega⟩
theorem nm_N0 : ∀ i : Fin 22, lowS (nmB i.val) = nmB i.val ∧ isN (nmB i.val).data.toList = true ∧ isN [UInt8.ofNat (97 + i.val)] = true := by decide +kernel
theorem nm_N {i : Nat} (h : i ≤ 21) : lowS (nmB i) = nmB i ∧ isN (nmB i).data.toList = true ∧ isN [UInt8.ofNat (97 + i)] = true := nm_N0 ⟨i, by omega⟩
theorem mem_TN {n : Nat} {p : Pe} (h : p ∈ TN n) : (∃ i, i < n ∧ p = leadP i) ∨ p = lastP n := by
  unfold TN at h
  rcases List.mem_append.1 h with h | h
  · obtain ⟨i, hi, rfl⟩ := List.mem_map.1 h
    exact .inl ⟨i, List.mem_range.1 hi, rfl⟩
  · exact .inr (List.mem_singleton.1 h)
theorem cname_N {n : Nat} (hn : n ≤ 20) : ∀ p ∈ TN n, p.leads = true → isN p.cname.data.toList = true ∧ p.cname.size ≤ 3000 := fun p hp hl => by
  rcases mem_TN hp with ⟨i, hi, rfl⟩ | rfl
  · exact ⟨(nm_N (i := i + 1) (by omega)).2.1, by show 1 ≤ 3000; omega⟩
  · cases hl
theorem ad_N {n : Nat} : ∀ p ∈ TN n, p.ad.length ≤ 1000000 := fun p hp => by
  rcases mem_TN hp with ⟨i, hi, rfl⟩ | rfl
  · show 0 ≤ 1000000; omega
  · show 1 ≤ 1000000; omega
theorem look_N {n : Nat} (hn : n ≤ 20) {L : List (Nat × En)} (h : (L.map fun p => p.2.pl) = TN n) {i : Nat} (hi : i ≤ n) :
    ∃ p, lookL L 1 (nmB i) = some p ∧ p.2.pl = if i < n then leadP i else lastP n := by
  have hap : L.Pairwise fun p q => p.2.key ≠ q.2.key := by
    have h2 := (pair_N hn).1
    rw [← h, List.pairwise_map] at h2
    exact h2
  obtain ⟨e, he, hk, hb⟩ : ∃ e, e = (if i < n then leadP i else lastP n) ∧ e.key = nmB i ∧ e.behind = 91 := by
    by_cases hin : i < n
    · exact ⟨leadP i, by rw [if_pos hin], rfl, rfl⟩
    · obtain rfl : i = n := by omega
      exact ⟨lastP i, by rw [if_neg hin], rfl, rfl⟩
  have hm : e ∈ TN n := by
    unfold TN
    rw [he]
    by_cases hin : i < n
    · rw [if_pos hin]
      exact List.mem_append.2 (.inl (List.mem_map.2 ⟨i, List.mem_range.2 hin, rfl⟩))
    · rw [if_neg hin]
      exact List.mem_append.2 (.inr (List.mem_singleton.2 rfl))
  rw [← h] at hm
  obtain ⟨p, hp, hpe⟩ := List.mem_map.1 hm
  have e1 : p.2.key = e.key := congrArg Pe.key hpe
  have e2 : p.2.behind = e.behind := congrArg Pe.behind hpe
  refine ⟨p, look_of hap hp (by rw [e1, hk, (nm_N (by omega)).1]) (by rw [e2, hb]; omega), hpe.trans he⟩
theorem chase_N {n : Nat} (hn : n ≤ 20) {L : List (Nat × En)} (h : (L.map fun p => p.2.pl) = TN n) :
    lookL L 1 (nmB 0) ≠ none ∧ chase L 1 9 (nmB 0) 0 = if n ≤ 8 then (some (0, [77]), nmB n, (n : Int)) else (some (10, []), nmB 8, 9) := by
  constructor
  · obtain ⟨p, hp, _⟩ := look_N hn h (Nat.zero_le n)
    rw [hp]; simp
  · refine chase_line0 L 1 nmB n [77] (fun i hi => ?_) ?_
    · obtain ⟨p, hp, he⟩ := look_N hn h (Nat.le_of_lt hi)
      rw [if_pos hi] at he
      exact ⟨p, hp, congrArg Pe.leads he, congrArg Pe.cname he⟩
    · obtain ⟨p, hp, he⟩ := look_N hn h (Nat.le_refl n)
      rw [if_neg (by omega)] at he
      exact ⟨p, hp, congrArg Pe.leads he, congrArg Pe.ad he⟩
theorem rsN_succ (n : Nat) : (List.range (n + 1)).map leadR = (List.range n).map leadR ++ [leadR n] := by
  rw [List.range_succ, List.map_append]; rfl
theorem good_lead {i : Nat} (h : i ≤ 20) : GoodA (leadR i) := ⟨rfl, ⟨by show (0 : Int) ≤ 9; omega, by show (9 : Int) ≤ 2147483647; omega⟩, (nm_N (by omega)).2.1, .inr ⟨rfl, (nm_N (i := i + 1) (by omega)).2.2, by show 1 ≤ 3000; omega⟩⟩
theorem good_last {i : Nat} (h : i ≤ 20) : GoodA (lastR i) := ⟨rfl, ⟨by show (0 : Int) ≤ 9; omega, by show (9 : Int) ≤ 2147483647; omega⟩, (nm_N (by omega)).2.1, .inl ⟨rfl, rfl⟩⟩
theorem good_key2 {l l2 : List Rc} (h : l2.map Rc.key = l.map Rc.key) (hg : ∀ r ∈ l, GoodA r) : ∀ r ∈ l2, GoodA r := fun r hr => by
  have h1 : r.key ∈ l.map Rc.key := by rw [← h]; exact List.mem_map.2 ⟨r, hr, rfl⟩
  obtain ⟨y, hy, he⟩ := List.mem_map.1 h1
  have g := hg y hy
  obtain ⟨nm, t, c, u, da, _, _⟩ := r
  obtain ⟨nm2, t2, c2, u2, da2, _, _⟩ := y
  unfold Rc.key at he
  simp only [Prod.mk.injEq] at he
  obtain ⟨rfl, rfl, rfl, rfl, rfl⟩ := he
  exact ⟨g.c, g.u, g.nm, g.t⟩
end
section
open Go.RowKit Go.Maps

set_option maxRecDepth 1000000 in
set_option maxHeartbeats 6400000 in
theorem chases_walk (w : World) (n : Int) (hm : MaxL w) (hpos : 0 < w.heap.size) :
    Calls Tryd.prog 5 #[.int .i64 n] w fun e w' => e = .returned (.bool true) ∧ Below w.heap.size w w' := by
  have KN := Lib.hid (knownR w hm hpos)
  by_cases n0 : n < 0
  · clear hm
    go_enter Tryd.func5, Tryd.ntmps5
    go_wp2_with fail
    refine KN.out.mono ?_
    rintro e w1 ⟨rfl, b1⟩
    go_wp2
    go_ret
    exact ⟨rfl, b1⟩
  by_cases n1 : 20 < n
  · clear hm
    go_enter Tryd.func5, Tryd.ntmps5
    go_wp2_with fail
    refine KN.out.mono ?_
    rintro e w1 ⟨rfl, b1⟩
    go_wp2
    go_ret
    exact ⟨rfl, b1⟩
  obtain ⟨N, rfl⟩ : ∃ N : Nat, n = N := ⟨n.toNat, by omega⟩
  have hN20 : N ≤ 20 := by omega
  clear KN
  have b0 : Below w.heap.size w (w.alloc (.cells #[.int .u32 5] 33)) := al (rf w) _
  have HN := Lib.hid (newC2 (w.alloc (.cells #[.int .u32 5] 33)) (some ⟨w.heap.size, 0, none⟩) [5] 1 9 (Reads.blk (blk_at _ _ _ rfl) rfl rfl) (by simp) (by simp) (by simp) (by omega) (by omega))
  have B0 := Lib.hid b0
  have HM := Lib.hid hm
  clear b0 hm
  have hs0w : (w.alloc (.cells #[.int .u32 5] 33)).heap.size = w.heap.size + 1 := by simp
  go_enter Tryd.func5, Tryd.ntmps5
  go_wp2_with fail
  refine HN.out.mono ?_
  rintro e w1 ⟨z, rb, rfl, hR, hK, hsv, hpo, hse, hqs, _, _, hag, hkb, b1⟩
  have B1 := Lib.hid (nx B0.out b1)
  have hz1 := b1.size
  have HSV := Lib.hid hsv
  have HPO := Lib.hid hpo
  have HSE := Lib.hid hse
  have HQS := Lib.hid hqs
  have HAG := Lib.hid hag
  have M1 := HM.out.below B1.out hpos
  unfold ptr
  have hN : isN (⟨#[97]⟩ : ByteArray).data.toList = true := aRf
  have KP1 := Lib.hid (IsKp.none_ (B := (w.alloc (.cells #[.int .u32 5] 33)).heap.size) hK hkb)
  have HA := Lib.hid (askE w1 (w.alloc (.cells #[.int .u32 5] 33)).heap.size rb z ⟨#[97]⟩ 0 0 hR hK M1 (by rw [hqs]; decide) hN (by decide) (by decide) (by rw [hsv]; decide) (by rw [hsv]; decide) (by omega) (by omega) (by omega) (by omega) b1.size (by simp) (by rw [hqs]; simp))
  have HS := Lib.hid hN
  clear hR hK hsv hpo hse hqs b1 HN hag M1 hN
  go_wp2_with fail
  refine HA.out.mono ?_
  rintro e w2 ⟨g, QA, qc, A2, k2, hg, FA2, DA2, fc2, dc2, rfl, hR2, _, own2, _, hdd, kt2, b2⟩
  have KP2 := Lib.hid (KP1.out.keep kt2 (by decide) (by decide) (by decide) (by decide))
  have B2 := Lib.hid (B1.out.trans (b2.mono (by simp)))
  have hz2 := b2.size
  obtain ⟨id, hid⟩ : ∃ id, idV 0 z.sent = id := ⟨_, rfl⟩
  have hidr := idV_le 0 z.sent
  rw [hid] at hR2 own2 hdd hidr
  obtain ⟨gd, rfl, _, hc⟩ := row5 (d := ⟨z.port, svAt z 0, askB id ⟨#[97]⟩, A2, k2⟩) (show w2.ownsRow w1.heap.size 36 5 (.slice DA2 1 dc2) 1 _ from own2)
  have c4 := hc 4 _ rfl
  have hby := hdd _ (List.mem_singleton.2 rfl)
  have hlen := encLen id 256 ⟨⟨#[97]⟩, 1, 1, 0, [], none, 0⟩ none none 1 0 ⟨HS.out, by show (0 : Int) ≤ 1; omega, by show (1 : Int) ≤ 65535; omega, by show (0 : Int) ≤ 1; omega, by show (1 : Int) ≤ 65535; omega⟩
  obtain ⟨l, hl⟩ : ∃ l, askB id ⟨#[97]⟩ = l := ⟨_, rfl⟩
  rw [hl] at hby c4
  have hl2 : encM ⟨id, 256, [⟨⟨#[97]⟩, 1, 1, 0, [], none, 0⟩], [], none, none, 1, 0⟩ = l := hl
  rw [hl2] at hlen
  obtain ⟨ga, cap, hv, _, hga, hcap, _, cur, hcur, _, _⟩ := own_form (show w2.ownsRow w1.heap.size 5 1 (.slice A2 l.length k2) l.length _ from hby) hlen.2
  injection hv with hv1 _ hv3
  subst hv1 hv3
  have FD := decC2 w2 ⟨id, 256, [⟨⟨#[97]⟩, 1, 1, 0, [], none, 0⟩], [], none, none, 1, 0⟩ (ask_wrong hidr.1 hidr.2 (by omega) (by omega) rfl rfl HS.out) (by simp) (by simp; decide) (by simp) [] l (by rw [List.append_nil, hl2]) ga 0 k2 (Bytes.own hby) (fun ad e => by injection e with e; subst e; exact ⟨cur, (0, 0), hcur⟩) (by omega) hcap
  have HFD := Lib.hid FD
  have HR2 := Lib.hid hR2
  have HID := Lib.hid hidr
  clear FD hby hcur hlen hl hl2 hc own2 hdd b2 hR2 hidr hid HA kt2
  go_wp2_with fail
  refine HFD.out.mono ?_
  rintro e w3 ⟨M2, ⟨he, e1, e2, e3, e4, i4, b4⟩, hcp, oq, oa, hne⟩
  obtain ⟨id2, fl2, q2, a2, Q2, A3, n2, m2⟩ := M2
  have ea2 : a2 = [] := List.map_eq_nil_iff.1 e4
  simp only [List.map_cons, List.map_nil] at e1 e2 e3
  have e1 := e1.symm
  have e2 := e2.symm
  subst e1 e2 e3 ea2
  have he2 : e = .returned (.tuple #[.agg #[.int .i64 id, .int .i64 256, .slice Q2 1 n2, .slice A3 0 m2], .int .i64 0]) := by rw [he]; rfl
  subst he2
  have B3 := Lib.hid (nx B2.out b4)
  have R3 := Lib.hid (HR2.out.nx b4)
  have KP3 := Lib.hid (KP2.out.nx b4)
  have hz3 := B3.out.size
  have hz23 := b4.size
  have kA : Below w3.heap.size w3 (w3.alloc (.cells #[.int .i64 id, .int .i64 32768, .slice Q2 1 n2, .slice A3 0 m2] 43)) := al (rf w3) _
  have F4 : Hid (Fm w (w3.alloc (.cells #[.int .i64 id, .int .i64 32768, .slice Q2 1 n2, .slice A3 0 m2] 43)) w.heap.size w3.heap.size id 32768 ⟨⟨#[97]⟩, 1, 1, 0, [], none, 0⟩ Q2 n2 [] A3 m2) := by
    have hz02 : w.heap.size ≤ w2.heap.size := by omega
    exact ⟨Blk.new _ _ _, (own_base oq hz02).alloc _, (own_base oa hz02).alloc _, hne, by simp, by simp, hz3, nx B3.out kA⟩
  have R4 := Lib.hid (R3.out.nx kA)
  have KP4 := Lib.hid (KP3.out.nx kA)
  have B4 := Lib.hid (nx B3.out kA)
  have M4 := Lib.hid (HM.out.below B4.out hpos)
  have HXX : (1 : Int) = 1 := rfl
  clear he e4 i4 b4 HFD hcp oq oa hne kA HXX
  go_wp2
  generalize (w3.alloc (.cells #[.int .i64 id, .int .i64 32768, .slice Q2 1 n2, .slice A3 0 m2] 43)) = w4 at F4 R4 KP4 B4 M4 ⊢
  obtain ⟨mb, hmb⟩ : ∃ mb, w3.heap.size = mb := ⟨_, rfl⟩
  rw [hmb] at F4 ⊢
  clear hmb
  go_loopw [9] (fun kv ws => ∃ (k : Nat) (A : Option Addr) (m : Nat) (rs : List Rc), kv = .int .i64 k ∧ k ≤ N ∧ Hid (Fm w ws w.heap.size mb id 32768 ⟨⟨#[97]⟩, 1, 1, 0, [], none, 0⟩ Q2 n2 rs A m) ∧ Hid (rs.length = k) ∧ Hid (rs.map Rc.key = ((List.range k).map leadR).map Rc.key) ∧
      Hid (IsRv ws (w.alloc (.cells #[.int .u32 5] 33)).heap.size rb { z with sent := z.sent + 1, qs := z.qs ++ [(g, ⟨⟨#[97]⟩, ⟨#[97]⟩, 0, id, 0, 1, 0 + 50⟩)], QA := QA, qc := qc }) ∧ Hid (IsKp ws (w.alloc (.cells #[.int .u32 5] 33)).heap.size z.km none 0 [] (.map [])) ∧ Hid (MaxL ws)) (fun kv _ => N - (intOf kv).toNat)
  case atStart => exact ⟨0, A3, m2, [], rfl, Nat.zero_le _, F4.out, rfl, rfl, R4.out, KP4.out, M4.out⟩
  case round =>
    clear F4 R4 KP4 M4
    obtain ⟨k, A, m, rs, rfl, hk, HF, HL, HKY, HRr, HKr, HMr⟩ := hrel
    by_cases hlt : k < N
    · have k0 : (0 : Int) ≤ k := by omega
      have k1 : (k : Int) < N := by omega
      have k20 : (k : Int) ≤ 20 := by omega
      have x3 := HF.out.b.cell 3
      have f3 := HF.out.b.frozen 3
      simp only [List.getElem?_toArray, List.getElem?_cons_zero, List.getElem?_cons_succ] at x3
      have OW := Lib.hid HF.out.a
      have X3 := Lib.hid HF.out.b
      have wsz := HF.out.b.lt
      have wlo := HF.out.lo
      have hll : Hid (rs.length ≤ 20) := by have h := HL.out; show _ ≤ _; omega
      have hl20 := hll.out
      have eu : ((UInt8.ofNat (97 + k)).toNat : Int) = 97 + (k : Int) := by simp [UInt8.toNat_ofNat']; omega
      have hcv : (convert 34 9 (.slice (some ⟨wr.heap.size, 0, none⟩) 1 1)).run Tryd.prog (wr.alloc (.cells #[.int .u8 (97 + (k : Int))] 5)) = .ok (.string (nmB k)) (wr.alloc (.cells #[.int .u8 (97 + (k : Int))] 5)) := by
        refine convStr _ _ [UInt8.ofNat (97 + k)] 1 1 (Reads.blk (Blk.new wr _ _) rfl ?_) rfl
        simp only [Lib.byteCells, List.map_cons, List.map_nil, eu]
      clear eu
      have kb1 : Below wr.heap.size wr (((wr.alloc (.cells #[.int .u8 (97 + (k : Int))] 5)).alloc (.cells #[.int .u8 (97 + (k : Int) + 1)] 5)).alloc (.cells #[.string (nmB k), .int .i64 5, .int .i64 1, .int .i64 9, .slice (some ⟨wr.heap.size + 1, 0, none⟩) 1 1] 48)) := al (al (al (rf wr) _) _) _
      have hz1w : wr.heap.size ≤ (((wr.alloc (.cells #[.int .u8 (97 + (k : Int))] 5)).alloc (.cells #[.int .u8 (97 + (k : Int) + 1)] 5)).alloc (.cells #[.string (nmB k), .int .i64 5, .int .i64 1, .int .i64 9, .slice (some ⟨wr.heap.size + 1, 0, none⟩) 1 1] 48)).heap.size := kb1.size
      go_wp2_with (at_builtin; refine app_any stRc rfl (.tmp 55) (.tmp 67) rfl w.heap.size (.slice A rs.length m) rs.length (rs.flatMap Rc.cs) rfl (((OW.out.alloc (.cells #[.int .u8 (97 + (k : Int))] 5)).alloc (.cells #[.int .u8 (97 + (k : Int) + 1)] 5)).alloc (.cells #[.string (nmB k), .int .i64 5, .int .i64 1, .int .i64 9, .slice (some ⟨wr.heap.size + 1, 0, none⟩) 1 1] 48)) (some ⟨wr.heap.size + 1 + 1, 0, none⟩) 1 1 [.string (nmB k), .int .i64 5, .int .i64 1, .int .i64 9, .slice (some ⟨wr.heap.size + 1, 0, none⟩) 1 1] rfl (reads5 (blk_at _ _ _ (by simp)) rfl) one5 (by omega) (by omega) (by omega) ?_; intro v9 w9 own9 gr9 at9 bel9; obtain ⟨A9, k9, rfl⟩ := own_slice own9; have b9 := (((X3.out.alloc (.cells #[.int .u8 (97 + (k : Int))] 5)).alloc (.cells #[.int .u8 (97 + (k : Int) + 1)] 5)).alloc (.cells #[.string (nmB k), .int .i64 5, .int .i64 1, .int .i64 9, .slice (some ⟨wr.heap.size + 1, 0, none⟩) 1 1] 48)).grown gr9 (fun e => own_blk_ne OW.out X3.out (by decide) e.symm); have c9 := b9.cell 3; have f9 := b9.frozen 3; simp only [List.getElem?_toArray, List.getElem?_cons_zero, List.getElem?_cons_succ] at c9)
      have OW2 := ((OW.out.alloc (.cells #[.int .u8 (97 + (k : Int))] 5)).alloc (.cells #[.int .u8 (97 + (k : Int) + 1)] 5)).alloc (.cells #[.string (nmB k), .int .i64 5, .int .i64 1, .int .i64 9, .slice (some ⟨wr.heap.size + 1, 0, none⟩) 1 1] 48)
      have ob : (((wr.alloc (.cells #[.int .u8 (97 + (k : Int))] 5)).alloc (.cells #[.int .u8 (97 + (k : Int) + 1)] 5)).alloc (.cells #[.string (nmB k), .int .i64 5, .int .i64 1, .int .i64 9, .slice (some ⟨wr.heap.size + 1, 0, none⟩) 1 1] 48)).ownsRow w.heap.size 5 1 (.slice (some ⟨wr.heap.size + 1, 0, none⟩) 1 1) 1 (Lib.byteCells [UInt8.ofNat (97 + k + 1)]) := by
        have e0 : Lib.byteCells [UInt8.ofNat (97 + k + 1)] = (#[.int .u8 (97 + (k : Int) + 1)] : Array Value).toList := by
          simp only [Lib.byteCells, List.map_cons, List.map_nil]
          rw [show ((UInt8.ofNat (97 + k + 1)).toNat : Int) = 97 + (k : Int) + 1 by simp [UInt8.toNat_ofNat']; omega]
        rw [e0]
        exact (own_lit (wr.alloc (.cells #[.int .u8 (97 + (k : Int))] 5)) #[.int .u8 (97 + (k : Int) + 1)] 1 (by simp) (by omega) (by unfold maxLen; omega) rfl).alloc _
      have FN := Lib.hid (HF.out.grow kb1 (by omega) ⟨nmB k, 5, 1, 9, [UInt8.ofNat (97 + k + 1)], some ⟨wr.heap.size + 1, 0, none⟩, 1⟩ ob ⟨by show 1 ≤ 3000; omega, by show 1 ≤ 3000; omega⟩ own9 gr9 (by simpa using at9) bel9)
      have hz9 := gr9.size
      have kt : KeepT wr.heap.size [48, 43] wr (w9.setCell ⟨mb, 3, none⟩ (.slice A9 (rs.length + 1) k9)) :=
        ((KeepT.of_below kb1 (Nat.le_refl _)).trans (KeepT.of_row gr9 OW2 (.inr (by simp)) hz1w)).trans (KeepT.of_set b9 _ (.inr (by simp)) (Nat.le_trans hz1w hz9))
      have RN := Lib.hid (HRr.out.keep kt (by decide) (by decide) (by decide) (by decide))
      have KN := Lib.hid (HKr.out.keep kt (by decide) (by decide) (by decide) (by decide))
      have MN := Lib.hid (HM.out.below FN.out.be hpos)
      have LN : Hid ((rs ++ [(⟨nmB k, 5, 1, 9, [UInt8.ofNat (97 + k + 1)], some ⟨wr.heap.size + 1, 0, none⟩, 1⟩ : Rc)]).length = k + 1) := by
        show _ = _
        rw [List.length_append, HL.out]; rfl
      have KYN : Hid ((rs ++ [(⟨nmB k, 5, 1, 9, [UInt8.ofNat (97 + k + 1)], some ⟨wr.heap.size + 1, 0, none⟩, 1⟩ : Rc)]).map Rc.key = ((List.range (k + 1)).map leadR).map Rc.key) := by
        show _ = _
        rw [List.map_append, HKY.out, rsN_succ, List.map_append]; rfl
      clear own9 gr9 at9 bel9 c9 f9 b9 kb1 ob kt OW2 hz9 hz1w hcv x3 f3
      go_wp2
      go_roundw
      case rel => exact ⟨k + 1, A9, k9, _, by go_num, by omega, FN.out, LN.out, KYN.out, RN.out, KN.out, MN.out⟩
      case measure => simp [intOf]; omega
    · obtain rfl : N = k := by omega
      have k20 : (N : Int) ≤ 20 := by omega
      have k0 : (0 : Int) ≤ N := by omega
      have x3 := HF.out.b.cell 3
      have f3 := HF.out.b.frozen 3
      simp only [List.getElem?_toArray, List.getElem?_cons_zero, List.getElem?_cons_succ] at x3
      have OW := Lib.hid HF.out.a
      have X3 := Lib.hid HF.out.b
      have wsz := HF.out.b.lt
      have wlo := HF.out.lo
      have hll : Hid (rs.length ≤ 20) := by have h := HL.out; show _ ≤ _; omega
      have hl20 := hll.out
      have eu : ((UInt8.ofNat (97 + N)).toNat : Int) = 97 + (N : Int) := by simp [UInt8.toNat_ofNat']; omega
      have hcv : (convert 34 9 (.slice (some ⟨wr.heap.size, 0, none⟩) 1 1)).run Tryd.prog (wr.alloc (.cells #[.int .u8 (97 + (N : Int))] 5)) = .ok (.string (nmB N)) (wr.alloc (.cells #[.int .u8 (97 + (N : Int))] 5)) := by
        refine convStr _ _ [UInt8.ofNat (97 + N)] 1 1 (Reads.blk (Blk.new wr _ _) rfl ?_) rfl
        simp only [Lib.byteCells, List.map_cons, List.map_nil, eu]
      clear eu
      have kb1 : Below wr.heap.size wr (((wr.alloc (.cells #[.int .u8 (97 + (N : Int))] 5)).alloc (.cells #[.int .u8 0, .int .u8 0, .int .u8 0, .int .u8 77] 5)).alloc (.cells #[.string (nmB N), .int .i64 1, .int .i64 1, .int .i64 9, .slice (some ⟨wr.heap.size + 1, 0, none⟩) 4 4] 48)) := al (al (al (rf wr) _) _) _
      have hz1w : wr.heap.size ≤ (((wr.alloc (.cells #[.int .u8 (97 + (N : Int))] 5)).alloc (.cells #[.int .u8 0, .int .u8 0, .int .u8 0, .int .u8 77] 5)).alloc (.cells #[.string (nmB N), .int .i64 1, .int .i64 1, .int .i64 9, .slice (some ⟨wr.heap.size + 1, 0, none⟩) 4 4] 48)).heap.size := kb1.size
      go_wp2_with (at_builtin; refine app_any stRc rfl (.tmp 71) (.tmp 79) rfl w.heap.size (.slice A rs.length m) rs.length (rs.flatMap Rc.cs) rfl (((OW.out.alloc (.cells #[.int .u8 (97 + (N : Int))] 5)).alloc (.cells #[.int .u8 0, .int .u8 0, .int .u8 0, .int .u8 77] 5)).alloc (.cells #[.string (nmB N), .int .i64 1, .int .i64 1, .int .i64 9, .slice (some ⟨wr.heap.size + 1, 0, none⟩) 4 4] 48)) (some ⟨wr.heap.size + 1 + 1, 0, none⟩) 1 1 [.string (nmB N), .int .i64 1, .int .i64 1, .int .i64 9, .slice (some ⟨wr.heap.size + 1, 0, none⟩) 4 4] rfl (reads5 (blk_at _ _ _ (by simp)) rfl) one5 (by omega) (by omega) (by omega) ?_; intro v9 w9 own9 gr9 at9 bel9; obtain ⟨A9, k9, rfl⟩ := own_slice own9; have b9 := (((X3.out.alloc (.cells #[.int .u8 (97 + (N : Int))] 5)).alloc (.cells #[.int .u8 0, .int .u8 0, .int .u8 0, .int .u8 77] 5)).alloc (.cells #[.string (nmB N), .int .i64 1, .int .i64 1, .int .i64 9, .slice (some ⟨wr.heap.size + 1, 0, none⟩) 4 4] 48)).grown gr9 (fun e => own_blk_ne OW.out X3.out (by decide) e.symm); have c9 := b9.cell 3; have f9 := b9.frozen 3; simp only [List.getElem?_toArray, List.getElem?_cons_zero, List.getElem?_cons_succ] at c9; have bF : Blk (w9.setCell ⟨mb, 3, none⟩ (.slice A9 (rs.length + 1) k9)) mb 43 #[.int .i64 id, .int .i64 32768, .slice Q2 1 n2, .slice A9 (rs.length + 1) k9] := b9.set_ 3 _; have y0 := bF.cell 0; have y1 := bF.cell 1; have y2 := bF.cell 2; have y3 := bF.cell 3; simp only [List.getElem?_toArray, List.getElem?_cons_zero, List.getElem?_cons_succ] at y0 y1 y2 y3)
      have OW2 := ((OW.out.alloc (.cells #[.int .u8 (97 + (N : Int))] 5)).alloc (.cells #[.int .u8 0, .int .u8 0, .int .u8 0, .int .u8 77] 5)).alloc (.cells #[.string (nmB N), .int .i64 1, .int .i64 1, .int .i64 9, .slice (some ⟨wr.heap.size + 1, 0, none⟩) 4 4] 48)
      have ob : (((wr.alloc (.cells #[.int .u8 (97 + (N : Int))] 5)).alloc (.cells #[.int .u8 0, .int .u8 0, .int .u8 0, .int .u8 77] 5)).alloc (.cells #[.string (nmB N), .int .i64 1, .int .i64 1, .int .i64 9, .slice (some ⟨wr.heap.size + 1, 0, none⟩) 4 4] 48)).ownsRow w.heap.size 5 1 (.slice (some ⟨wr.heap.size + 1, 0, none⟩) 4 4) 4 (Lib.byteCells ([0, 0, 0, 77] : List UInt8)) := by
        have e0 : Lib.byteCells ([0, 0, 0, 77] : List UInt8) = (#[.int .u8 0, .int .u8 0, .int .u8 0, .int .u8 77] : Array Value).toList := by
          rfl
        rw [e0]
        exact (own_lit (wr.alloc (.cells #[.int .u8 (97 + (N : Int))] 5)) #[.int .u8 0, .int .u8 0, .int .u8 0, .int .u8 77] 4 (by simp) (by omega) (by unfold maxLen; omega) rfl).alloc _
      have FN := Lib.hid (HF.out.grow kb1 (by omega) ⟨nmB N, 1, 1, 9, [0, 0, 0, 77], some ⟨wr.heap.size + 1, 0, none⟩, 4⟩ ob ⟨by show 4 ≤ 3000; omega, by show 1 ≤ 3000; omega⟩ own9 gr9 (by simpa using at9) bel9)
      have hz9 := gr9.size
      have kt : KeepT wr.heap.size [48, 43] wr (w9.setCell ⟨mb, 3, none⟩ (.slice A9 (rs.length + 1) k9)) :=
        ((KeepT.of_below kb1 (Nat.le_refl _)).trans (KeepT.of_row gr9 OW2 (.inr (by simp)) hz1w)).trans (KeepT.of_set b9 _ (.inr (by simp)) (Nat.le_trans hz1w hz9))
      have RN := Lib.hid (HRr.out.keep kt (by decide) (by decide) (by decide) (by decide))
      have KN := Lib.hid (HKr.out.keep kt (by decide) (by decide) (by decide) (by decide))
      have MN := Lib.hid (HM.out.below FN.out.be hpos)
      have hky : (rs ++ [(⟨nmB N, 1, 1, 9, [0, 0, 0, 77], some ⟨wr.heap.size + 1, 0, none⟩, 4⟩ : Rc)]).map Rc.key = (rsN N).map Rc.key := by
        rw [List.map_append, HKY.out]
        unfold rsN
        rw [List.map_append]; rfl
      have hga : ∀ r ∈ rs ++ [(⟨nmB N, 1, 1, 9, [0, 0, 0, 77], some ⟨wr.heap.size + 1, 0, none⟩, 4⟩ : Rc)], GoodA r := good_key2 hky fun r hr => by
        rcases List.mem_append.1 hr with hr | hr
        · obtain ⟨i, hi, rfl⟩ := List.mem_map.1 hr
          exact good_lead (by have := List.mem_range.1 hi; omega)
        · obtain rfl := List.mem_singleton.1 hr
          exact good_last hN20
      have hlr : (rs ++ [(⟨nmB N, 1, 1, 9, [0, 0, 0, 77], some ⟨wr.heap.size + 1, 0, none⟩, 4⟩ : Rc)]).length = rs.length + 1 := by simp
      have hzM : wrongI ⟨id, 32768, [⟨⟨#[97]⟩, 1, 1, 0, [], none, 0⟩], rs ++ [(⟨nmB N, 1, 1, 9, [0, 0, 0, 77], some ⟨wr.heap.size + 1, 0, none⟩, 4⟩ : Rc)], Q2, A9, n2, k9⟩ = 0 := good_wrong HID.out.1 HID.out.2 (by omega) (by omega) rfl rfl aRf hga (by rw [hlr]; omega)
      have HE0 := encD _ ⟨id, 32768, [⟨⟨#[97]⟩, 1, 1, 0, [], none, 0⟩], rs ++ [(⟨nmB N, 1, 1, 9, [0, 0, 0, 77], some ⟨wr.heap.size + 1, 0, none⟩, 4⟩ : Rc)], Q2, A9, n2, k9⟩ (FN.out.is (by rw [hlr]; omega) (by decide) rfl) hzM MN.out
      rw [show (⟨id, 32768, [⟨⟨#[97]⟩, 1, 1, 0, [], none, 0⟩], rs ++ [(⟨nmB N, 1, 1, 9, [0, 0, 0, 77], some ⟨wr.heap.size + 1, 0, none⟩, 4⟩ : Rc)], Q2, A9, n2, k9⟩ : Ms).a.length = rs.length + 1 from hlr] at HE0
      have HE := Lib.hid HE0
      have HSZ := Lib.hid FN.out.sz
      have HZM := Lib.hid hzM
      have HBF := Lib.hid FN.out.be
      have HT : Hid (keepL 1 [] (rs ++ [(⟨nmB N, 1, 1, 9, [0, 0, 0, 77], some ⟨wr.heap.size + 1, 0, none⟩, 4⟩ : Rc)]) = TN N) := by
        show _ = _
        rw [keepL_key hky, keep_N hN20]
      clear own9 gr9 at9 bel9 c9 f9 b9 kb1 ob kt OW2 hz9 hz1w hcv x3 f3 hky hga hlr hzM HE0 bF FN
      go_wp2_with fail
      generalize (w9.setCell ⟨mb, 3, none⟩ (.slice A9 (rs.length + 1) k9)) = w4 at HE RN KN MN HBF y0 y1 y2 y3 ⊢
      refine HE.out.mono ?_
      rintro e w5 ⟨ga, c, rfl, by5, ty5, l1, l2, b5⟩
      obtain ⟨l, hl⟩ : ∃ l, encM ⟨id, 32768, [⟨⟨#[97]⟩, 1, 1, 0, [], none, 0⟩], rs ++ [(⟨nmB N, 1, 1, 9, [0, 0, 0, 77], some ⟨wr.heap.size + 1, 0, none⟩, 4⟩ : Rc)], Q2, A9, n2, k9⟩ = l := ⟨_, rfl⟩
      rw [hl] at by5 l1 l2 ⊢
      have r5 := RN.out.nx b5
      have hz5 := b5.size
      have hzb : (w.alloc (.cells #[.int .u32 5] 33)).heap.size ≤ w5.heap.size := by have h1 := r5.lo; have h2 := r5.b.lt; omega
      have HH := Lib.hid (hearKeep w5 _ rb g { z with sent := z.sent + 1, qs := z.qs ++ [(g, ⟨⟨#[97]⟩, ⟨#[97]⟩, 0, id, 0, 1, 0 + 50⟩)], QA := QA, qc := qc } ⟨⟨#[97]⟩, ⟨#[97]⟩, 0, id, 0, 1, 50⟩ ⟨id, 32768, [⟨⟨#[97]⟩, 1, 1, 0, [], none, 0⟩], rs ++ [(⟨nmB N, 1, 1, 9, [0, 0, 0, 77], some ⟨wr.heap.size + 1, 0, none⟩, 4⟩ : Rc)], Q2, A9, n2, k9⟩ ⟨⟨#[97]⟩, 1, 1, 0, [], none, 0⟩ 5 0 1 0 0 l ga c none 0 [] (.map []) (TN N) r5 (by show z.qs ++ _ = _; rw [HQS.out]; rfl) (MN.out.nx b5) hzb (by omega) HZM.out (fun r hr => (HSZ.out r hr).1) (fun r hr => (HSZ.out r hr).2) rfl rfl rfl (by decide) hl.symm by5 ty5 (by omega) l2
        (by show bits .and .i64 32768 32768 = 32768; decide +kernel) (by show bits .and .i64 32768 15 = 0; decide +kernel) rfl (Int.le_refl 0) (by show (0 : Int) < z.sv.length; rw [HSV.out]; decide) (by show (5 : Int) = svAt z 0; unfold svAt; rw [HSV.out]; rfl) (beq_self_eq_true _) (by show 1 ≤ 3000; omega) 9 HPO.out.symm rfl HAG.out (KN.out.nx b5) HT.out (pair_N hN20).1 (pair_N hN20).2
        (fun L' h => by
          obtain ⟨h1, h2⟩ := chase_N hN20 h
          refine ⟨h1, ?_⟩
          by_cases h8 : N ≤ 8
          · rw [if_pos h8] at h2
            exact ⟨0, [77], nmB N, N, h2⟩
          · rw [if_neg h8] at h2
            exact ⟨10, [], nmB 8, 9, h2⟩) (cname_N hN20) ad_N (Int.le_refl 0) (by show (0 : Int) ≤ 8; omega) aRf (by rw [HSV.out]; decide) (by rw [HSV.out]; decide) (by omega) (by omega) (by show 0 ≤ z.sent + 1; rw [HSE.out]; decide) (by show z.sent + 1 ≤ _; rw [HSE.out]; decide))
      have BW5 := Lib.hid (HBF.out.trans (b5.mono (by have := RN.out.lo; have := RN.out.b.lt; omega)))
      have M5 := Lib.hid (MN.out.nx b5)
      clear r5 by5 ty5 b5 HE y0 y1 y2 y3 hl
      go_wp2_with fail
      refine HH.out.mono ?_
      rintro e w7 ⟨AA7, ac7, L7, D7, err, ads, nm, fo, A7, k7, QA7, qc7, FA, fc, rfl, ht7, hc7, R7, K7, own7, ad7, kt7, b7⟩
      have hce := (chase_N hN20 ht7).2
      have hc8 : chase L7 1 9 (nmB 0) 0 = (some (err, ads), nm, fo) := hc7
      rw [hc8] at hce
      obtain ⟨gf, rfl, _, hcf⟩ := row3f (d := ⟨⟨#[97]⟩, err, ads, A7, k7⟩) (show w7.ownsRow w5.heap.size 39 3 (.slice FA 1 fc) 1 _ from own7)
      have u1 := hcf 1 _ rfl
      have u2 := hcf 2 _ rfl
      simp only at u1 u2
      have B7 := Lib.hid (BW5.out.trans (b7.mono (by omega)))
      have M7 := Lib.hid (M5.out.below b7 (by omega))
      have HAD7 := Lib.hid ad7
      have hz7 := b7.size
      clear hc7 hc8 R7 K7 own7 ad7 kt7 b7 hcf HH ht7
      by_cases h8 : N ≤ 8
      · rw [if_pos h8] at hce
        have he : some (err, ads) = some ((0 : Int), [(77 : Int)]) := congrArg Prod.fst hce
        injection he with he
        injection he with he1 he2
        subst he1 he2
        obtain ⟨ad1, v1, hA1, _, hv1, hc1⟩ := (Reads.of_own HAD7.out).at_ (k := 0) (by simp)
        have ev : v1 = .int .u32 77 := by simpa using hv1.symm
        subst ev hA1
        have hz : ad1.add 0 = ad1 := by simp [Addr.add]
        rw [hz] at hc1
        have g8 : ¬ (8 : Int) < N := by omega
        clear hce hv1 hz
        go_wp2_with fail
        refine (knownR _ M7.out (by omega)).mono ?_
        rintro e w8 ⟨rfl, b8⟩
        have B8 := Lib.hid (B7.out.trans (b8.mono (by omega)))
        clear b8
        go_wp2
        go_ret
        exact ⟨rfl, B8.out⟩
      · rw [if_neg h8] at hce
        have he : some (err, ads) = some ((10 : Int), ([] : List Int)) := congrArg Prod.fst hce
        injection he with he
        injection he with he1 he2
        subst he1 he2
        have g8 : (8 : Int) < N := by omega
        clear hce
        go_wp2_with fail
        refine (knownR _ M7.out (by omega)).mono ?_
        rintro e w8 ⟨rfl, b8⟩
        have B8 := Lib.hid (B7.out.trans (b8.mono (by omega)))
        clear b8
        go_wp2
        go_ret
        exact ⟨rfl, B8.out⟩
end
end Go.Proofs.YtpfkmmmlocmakaaDoor
