/-
  Ports: the reference's Connect and Free.
-/
import Derived.Test.YtbhplleaokncpaaPrT
import Derived.Test.YtbhplleaokncpaaChn
import Derived.Maps.RangeWalk
set_option linter.unusedVariables false
namespace Go.Proofs.Ytbhplleaokncpaa
open Go.RowKit

def rconR (L : List Rp) (id a port : Int) : Int × List Rp :=
  if spotR L id < 0 then (7, L) else if port < 0 ∨ 65535 < port then (1, L) else (0, L.modify (spotR L id).toNat fun p => { p with peer := a, pp := port })
theorem rcs_set : ∀ (L : List Rp) (k : Nat) (q : Rp) (x y : Int), L[k]? = some q → ((rcs L).set (k * 5 + 3) (.int .u32 x)).set (k * 5 + 4) (.int .i64 y) = rcs (L.set k { q with peer := x, pp := y })
  | [], k, q, x, y, h => by simp at h
  | p :: L, 0, q, x, y, h => by
    simp only [List.getElem?_cons_zero, Option.some.injEq] at h
    subst h
    simp [rcs, Rp.cs]
  | p :: L, k + 1, q, x, y, h => by
    simp only [List.getElem?_cons_succ] at h
    have ih := rcs_set L k q x y h
    have hl : (Rp.cs p).length = 5 := rfl
    simp only [rcs, List.flatMap_cons, List.set_cons_succ] at ih ⊢
    rw [List.set_append_right _ _ (by rw [hl]; omega), List.set_append_right _ _ (by rw [hl]; omega), hl, show (k + 1) * 5 + 3 - 5 = k * 5 + 3 by omega, show (k + 1) * 5 + 4 - 5 = k * 5 + 4 by omega, ih]
theorem own_set {w : World} {B g j n : Nat} {e : TypeId} {c : Nat} {size : Nat} {xs : List Value} {u : Value} (h : w.ownsRow B e size (.slice (some ⟨g, 0, none⟩) n c) n xs) (hj : j < n * size) :
    (w.setCell ⟨g, j, none⟩ u).ownsRow B e size (.slice (some ⟨g, 0, none⟩) n c) n (xs.set j u) := by
  refine ⟨by rw [List.length_set]; exact h.1, ?_⟩
  rcases h.2 with ⟨e, _⟩ | ⟨g', cap, cur, hv, hb, hg, hn, hm, hs, ht⟩
  · simp at e
  · injection hv with e1 e2 e3
    injection e1 with e1
    injection e1 with e1
    subst e1 e3
    refine .inr ⟨g, c, cur.setIfInBounds j u, rfl, hb, (show Blk w g e cur from hg).set_ j u, hn, hm, by rw [Array.size_setIfInBounds]; exact hs, ?_⟩
    rw [← ht, Array.toList_setIfInBounds, List.take_set]
theorem spot_at {L : List Rp} {id : Int} (h : ¬ spotR L id < 0) : ∃ k q, spotR L id = (k : Nat) ∧ L[k]? = some q := by
  unfold spotR at *
  cases hf : L.findIdx? (fun p => p.id == id) with
  | none => rw [hf] at h; exact absurd (show (-1 : Int) < 0 by decide) h
  | some i =>
    obtain ⟨hi, _⟩ := List.findIdx?_eq_some_iff_getElem.1 hf
    exact ⟨i, L[i], rfl, List.getElem?_eq_getElem hi⟩
theorem modify_set {L : List Rp} {k : Nat} {q : Rp} (f : Rp → Rp) (h : L[k]? = some q) : L.modify k f = L.set k (f q) := by
  apply List.ext_getElem?
  intro j
  rw [List.getElem?_modify, List.getElem?_set]
  by_cases e : k = j
  · subst e
    have := (List.getElem?_eq_some_iff.1 h).1
    have h2 := (List.getElem?_eq_some_iff.1 h).2
    simp [this, h2]
  · simp [e]
set_option maxRecDepth 100000 in
set_option maxHeartbeats 1600000 in
theorem rconC (B rb : Nat) (L : List Rp) (id a port : Int) (w : World) (h : IsRf w B rb L) (hB : B ≤ w.heap.size) (hl : L.length ≤ 64) :
    Calls Try.prog 40 #[.pointer (some ⟨rb, 0, none⟩), .int .i64 id, .int .u32 a, .int .i64 port] w fun e w' => e = .returned (.int .i64 (rconR L id a port).1) ∧ RfP w w' B rb (rconR L id a port).2 := by
  have HH := Lib.hid h
  have HSP := Lib.hid (spotC B rb L id w h hl)
  by_cases h1 : spotR L id < 0
  · have HR : Hid (rconR L id a port = (7, L)) := by show _ = _; unfold rconR; rw [if_pos h1]
    generalize spotR L id = s at *
    clear h
    go_enter Try.func40, Try.ntmps40
    go_wp2_with fail
    refine HSP.out.mono ?_
    rintro e w1 ⟨rfl, rfl⟩
    go_wp2
    go_ret
    exact ⟨by rw [HR.out]; rfl, by rw [HR.out]; exact RfP.same HH.out hB (rf _)⟩
  have HD : Hid (rconR L id a port = if port < 0 ∨ 65535 < port then (1, L) else (0, L.modify (spotR L id).toNat fun p => { p with peer := a, pp := port })) := by show _ = _; unfold rconR; rw [if_neg h1]
  obtain ⟨k, q, hk, hq⟩ := spot_at h1
  rw [hk] at HSP HD
  clear h1 hk
  by_cases h2 : port < 0
  · have HR : Hid (rconR L id a port = (1, L)) := by show _ = _; rw [HD.out, if_pos (.inl h2)]
    clear h
    go_enter Try.func40, Try.ntmps40
    go_wp2_with fail
    refine HSP.out.mono ?_
    rintro e w1 ⟨rfl, rfl⟩
    go_wp2
    go_ret
    exact ⟨by rw [HR.out]; rfl, by rw [HR.out]; exact RfP.same HH.out hB (rf _)⟩
  by_cases h3 : 65535 < port
  · have HR : Hid (rconR L id a port = (1, L)) := by show _ = _; rw [HD.out, if_pos (.inr h3)]
    clear h
    go_enter Try.func40, Try.ntmps40
    go_wp2_with fail
    refine HSP.out.mono ?_
    rintro e w1 ⟨rfl, rfl⟩
    go_wp2
    go_ret
    exact ⟨by rw [HR.out]; rfl, by rw [HR.out]; exact RfP.same HH.out hB (rf _)⟩
  have HR : Hid (rconR L id a port = (0, L.set k { q with peer := a, pp := port })) := by
    show _ = _
    rw [HD.out, if_neg (by omega)]
    show (0, L.modify k _) = _
    rw [modify_set _ hq]
  have hkl : k < L.length := (List.getElem?_eq_some_iff.1 hq).1
  have hkb : k < 64 := by omega
  obtain ⟨v, hb0, ow0⟩ := h.row
  rcases ow0.2 with ⟨_, h0⟩ | ⟨g, cap, cur, rfl, hgB, hg, hn, hm, hsz, ht⟩
  · omega
  have hgb : Blk w g 97 cur := hg
  have e0 : w.cell? ⟨rb, 0, none⟩ = some (.slice (some ⟨g, 0, none⟩) L.length cap) := hb0.cell 0
  have hne : g ≠ rb := fun e => by
    subst e
    have := hgb.symm.trans hb0
    simp at this
  have hcell : ∀ j, j < 5 → w.cell? ⟨g, k * 5 + j, none⟩ = q.cs[j]? := fun j hj => by
    rw [hgb.cell, ← rcs_at L k j q hq hj, ← ht, List.getElem?_take_of_lt (by omega), Array.getElem?_toList]
  have x3 : w.cell? ⟨g, k * 5 + 3, none⟩ = some (.int .u32 q.peer) := hcell 3 (by omega)
  have x4 : w.cell? ⟨g, k * 5 + 4, none⟩ = some (.int .i64 q.pp) := hcell 4 (by omega)
  have f3 := hgb.frozen (k * 5 + 3)
  have y4 : (w.setCell ⟨g, k * 5 + 3, none⟩ (.int .u32 a)).cell? ⟨g, k * 5 + 4, none⟩ = some (.int .i64 q.pp) := by
    rw [(hgb.set_ (k * 5 + 3) (.int .u32 a)).cell, Array.getElem?_setIfInBounds_ne (by omega), ← hgb.cell]; exact x4
  have g4 := (hgb.set_ (k * 5 + 3) (.int .u32 a)).frozen (k * 5 + 4)
  have y0 : (w.setCell ⟨g, k * 5 + 3, none⟩ (.int .u32 a)).cell? ⟨rb, 0, none⟩ = some (.slice (some ⟨g, 0, none⟩) L.length cap) := by
    have : w.grownBy (w.setCell ⟨g, k * 5 + 3, none⟩ (.int .u32 a)) (some g) := only_setCell (p := ⟨g, k * 5 + 3, none⟩) (World.grownBy.refl _ _) (.inl rfl) _
    exact (hb0.grown this (by intro e; injection e with e; exact hne e.symm)).cell 0
  have k1 : (k : Int) < L.length := by omega
  have k0 : (0 : Int) ≤ k := by omega
  have HB0 := Lib.hid hb0
  have OW0 := Lib.hid ow0
  have HG := Lib.hid hgb
  have HQ := Lib.hid hq
  clear h hb0 ow0 hgb hcell hq hg ht HD
  go_enter Try.func40, Try.ntmps40
  go_wp2_with fail
  refine HSP.out.mono ?_
  rintro e w1 ⟨rfl, rfl⟩
  go_wp2
  go_ret
  rw [HR.out]
  refine ⟨rfl, ?_⟩
  have s1 : w1.grownBy (w1.setCell ⟨g, k * 5 + 3, none⟩ (.int .u32 a)) (some g) := only_setCell (p := ⟨g, k * 5 + 3, none⟩) (World.grownBy.refl _ _) (.inl rfl) _
  have s2 : w1.grownBy ((w1.setCell ⟨g, k * 5 + 3, none⟩ (.int .u32 a)).setCell ⟨g, k * 5 + 4, none⟩ (.int .i64 port)) (some g) := only_setCell (p := ⟨g, k * 5 + 4, none⟩) s1 (.inl rfl) _
  have hbad : ∀ g' o, some g = some g' → w1.heap[g']? = some o → badR o := fun g' o e ho => own_bad OW0.out g' o (by simpa [Value.ownBlock] using e) ho
  refine ⟨⟨HH.out.lo, .slice (some ⟨g, 0, none⟩) L.length cap, HB0.out.grown s2 (by intro e; injection e with e; exact hne e.symm), ?_⟩, ((Below.refl B w1).setCell hgB _).setCell hgB _, fun pb S hp => hp.ref s2 hbad, Keeps.of_row s2 hbad⟩
  · have h5 := own_set (own_set OW0.out (j := k * 5 + 3) (u := .int .u32 a) (by omega)) (j := k * 5 + 4) (u := .int .i64 port) (by omega)
    rw [rcs_set L k q a port HQ.out] at h5
    rw [List.length_set]
    exact h5
def rdelR (L : List Rp) (id : Int) : Bool × List Rp := if spotR L id < 0 then (false, L) else (true, L.eraseIdx (spotR L id).toNat)
theorem rcs_take (L : List Rp) (k : Nat) (h : k ≤ L.length) : (rcs L).take (k * 5) = rcs (L.take k) := by
  conv => lhs; rw [← List.take_append_drop k L, rcs_app]
  rw [List.take_append_of_le_length (by rw [rcs_len, List.length_take]; omega), List.take_of_length_le (by rw [rcs_len, List.length_take]; omega)]
theorem rcs_drop (L : List Rp) (k : Nat) (h : k ≤ L.length) : (rcs L).drop (k * 5) = rcs (L.drop k) := by
  conv => lhs; rw [← List.take_append_drop k L, rcs_app]
  rw [List.drop_append_of_le_length (by rw [rcs_len, List.length_take]; omega), List.drop_eq_nil_of_le (by rw [rcs_len, List.length_take]; omega), List.nil_append]
set_option maxRecDepth 100000 in
set_option maxHeartbeats 3200000 in
theorem rdelC (B rb : Nat) (L : List Rp) (id : Int) (w : World) (h : IsRf w B rb L) (hB : B ≤ w.heap.size) (hl : L.length ≤ 64) :
    Calls Try.prog 41 #[.pointer (some ⟨rb, 0, none⟩), .int .i64 id] w fun e w' => e = .returned (.bool (rdelR L id).1) ∧ RfP w w' B rb (rdelR L id).2 := by
  have HH := Lib.hid h
  have HSP := Lib.hid (spotC B rb L id w h hl)
  by_cases h1 : spotR L id < 0
  · have HR : Hid (rdelR L id = (false, L)) := by show _ = _; unfold rdelR; rw [if_pos h1]
    generalize spotR L id = s at *
    clear h
    go_enter Try.func41, Try.ntmps41
    go_wp2_with fail
    refine HSP.out.mono ?_
    rintro e w1 ⟨rfl, rfl⟩
    go_wp2
    go_ret
    exact ⟨by rw [HR.out]; rfl, by rw [HR.out]; exact RfP.same HH.out hB (rf _)⟩
  obtain ⟨k, q, hk, hq⟩ := spot_at h1
  have HR : Hid (rdelR L id = (true, L.take k ++ L.drop (k + 1))) := by
    show _ = _
    unfold rdelR
    rw [if_neg h1, hk]
    show (true, L.eraseIdx k) = _
    rw [List.eraseIdx_eq_take_drop_succ]
  rw [hk] at HSP
  clear h1 hk
  have hkl : k < L.length := (List.getElem?_eq_some_iff.1 hq).1
  have hkb : k < 64 := by omega
  obtain ⟨v, hb0, ow0⟩ := h.row
  rcases ow0.2 with ⟨_, h0⟩ | ⟨g, cap, cur, rfl, hgB, hg, hn, hm, hsz, ht⟩
  · omega
  have hgb : Blk w g 97 cur := hg
  have e0 : w.cell? ⟨rb, 0, none⟩ = some (.slice (some ⟨g, 0, none⟩) L.length cap) := hb0.cell 0
  have HB0 := Lib.hid hb0
  have OW0 := Lib.hid ow0
  have HG := Lib.hid hgb
  have HQ := Lib.hid hq
  have hrb := hb0.lt
  have k1 : (k : Int) < L.length := by omega
  have k0 : (0 : Int) ≤ k := by omega
  have k2 : (k : Int) ≤ cap := by omega
  have k3 : (k : Int) + 1 ≤ L.length := by omega
  have k4 : (0 : Int) ≤ (k : Int) + 1 := by omega
  clear h hb0 ow0 hgb hq hg ht
  go_enter Try.func41, Try.ntmps41
  go_wp2_with fail
  refine HSP.out.mono ?_
  rintro e w1 ⟨rfl, rfl⟩
  go_wp2
  have e1 : ∀ x : Gz w1 rb 46 #[.slice (some ⟨g, 0, none⟩) L.length cap], x.w.cell? ⟨rb, 0, none⟩ = some (.slice (some ⟨g, 0, none⟩) L.length cap) := fun x => x.z.cell 0
  have hne1 : Nonempty (Gz w1 rb 46 #[.slice (some ⟨g, 0, none⟩) L.length cap]) := ⟨⟨w1, World.grownBy.refl _ _, HB0.out⟩⟩
  have hgr : g ≠ rb := fun e => by
    have h1 := HG.out
    have h2 := HB0.out
    rw [e] at h1
    have := h1.symm.trans h2
    simp at this
  have RW : Hid (∀ y : Gz w1 rb 46 #[.slice (some ⟨g, 0, none⟩) L.length cap], Reads y.w y.w.heap.size 5 (some ⟨g, 0, none⟩) L.length (rcs L)) := fun y => Reads.of_own (OW0.out.kept y.h (.inr (by simp only [Value.ownBlock]; intro e; injection e with e; exact hgr e)))
  have RA : Hid (∀ y : Gz w1 rb 46 #[.slice (some ⟨g, 0, none⟩) L.length cap], Reads y.w y.w.heap.size 5 (some ⟨g, 0, none⟩) k (rcs (L.take k))) := fun y => by
    have h := (RW.out y).below (rf _)
    refine ⟨by rw [rcs_len, List.length_take, Nat.min_eq_left (by omega)], fun _ => ?_⟩
    obtain ⟨ad, e, h1, h2⟩ := h.2 (by omega)
    refine ⟨ad, e, h1, fun j u hj => h2 j u ?_⟩
    rw [← rcs_take L k (by omega), List.getElem?_take] at hj
    split at hj
    · exact hj
    · cases hj
  obtain ⟨AX, hAX⟩ : ∃ AX : Option Addr, AX = if cap = k + 1 then some ⟨g, 0, none⟩ else (some (⟨g, 0, none⟩ : Addr)).map (·.add ((k + 1) * 5)) := ⟨_, rfl⟩
  have HAX := Lib.hid hAX
  have RD : Hid (∀ y : Gz w1 rb 46 #[.slice (some ⟨g, 0, none⟩) L.length cap], Reads y.w y.w.heap.size 5 AX (L.length - (k + 1)) (rcs (L.drop (k + 1)))) := fun y => by
    have h := (RW.out y).cut (k := k + 1) (cap := cap) (by omega) hn
    rw [rcs_drop L (k + 1) (by omega), ← hAX] at h
    exact h
  clear hAX
  refine wp_region_chn rb 46 #[.slice (some ⟨g, 0, none⟩) L.length cap] 19 (by kernel_rfl) (by kernel_rfl) (by kernel_rfl) (by kernel_rfl) HB0.out ?_
  iterate 1 (refine chn_early (by kernel_rfl) (by kernel_rfl) (by kernel_rfl) ?_; intro K hK; go_big_quiet_op; go_big_quiet_on)
  refine chn_lit0 (by kernel_rfl) 44 97 rfl (fun w => by kernel_rfl) (by decide) hrb 5 (fun v1 hv1 => ?_)
  obtain ⟨A1, c1, rfl⟩ := hv1
  go_frame
  iterate 6 (refine chn_early (by kernel_rfl) (by kernel_rfl) (by kernel_rfl) ?_; intro K hK; go_big_quiet_op; go_big_quiet_on)
  refine chn_app stP (by kernel_rfl) (.tmp 12) (.tmp 18) rfl (by decide) (by kernel_rfl) hrb (.slice A1 0 c1) 0 [] rfl (fun w h => h) (some ⟨g, 0, none⟩) k cap (rcs (L.take k)) rfl RA.out (rcs_one _) (by omega) (by omega) k (Nat.zero_add k) _ (List.nil_append _) (fun v2 hv2 => ?_)
  obtain ⟨A2, c2, rfl⟩ := hv2
  go_frame
  iterate 6 (refine chn_early (by kernel_rfl) (by kernel_rfl) (by kernel_rfl) ?_; intro K hK; go_big_quiet_op; go_big_quiet_on)
  refine chn_early (by kernel_rfl) (by kernel_rfl) (by kernel_rfl) ?_
  intro K hK
  refine quiet_cutL 5 44 (.tmp 23) (.tmp 25) rfl rfl (fun w => by kernel_rfl) (some ⟨g, 0, none⟩) L.length cap (k + 1) .i64 rfl rfl (by omega) hn AX HAX.out ?_
  refine hK _ ?_
  clear hK K
  go_frame
  refine chn_app stP (by kernel_rfl) (.tmp 19) (.tmp 26) rfl (by decide) (by kernel_rfl) hrb (.slice A2 k c2) k (rcs (L.take k)) rfl (fun w h => h) _ (L.length - (k + 1)) (cap - (k + 1)) (rcs (L.drop (k + 1))) rfl RD.out (rcs_one _) (by omega) (by omega) _ rfl _ rfl (fun v3 hv3 => ?_)
  obtain ⟨A3, c3, rfl⟩ := hv3
  go_frame
  iterate 2 (refine chn_early (by kernel_rfl) (by kernel_rfl) (by kernel_rfl) ?_; intro K hK; go_big_quiet_op; go_big_quiet_on)
  refine chn_store (by kernel_rfl) 44 (.tmp 29) (.tmp 27) rfl rfl (by kernel_rfl) 0 (.slice A3 (k + (L.length - (k + 1))) c3) rfl rfl _ rfl (fun w h1 h2 => by simp [go_sem, h1, h2]) ?_
  go_frame
  refine chn_nil ?_
  intro w2 g2 hF
  obtain ⟨w3, ow3, g3, hb3, rfl⟩ := hF
  go_wp2
  go_ret
  rw [HR.out]
  refine ⟨rfl, ?_⟩
  have hlen : (L.take k ++ L.drop (k + 1)).length = k + (L.length - (k + 1)) := by rw [List.length_append, List.length_take, List.length_drop]; omega
  have ow4 : w3.ownsRow B 97 5 (.slice A3 (k + (L.length - (k + 1))) c3) (L.take k ++ L.drop (k + 1)).length (rcs (L.take k ++ L.drop (k + 1))) := by
    rw [hlen, rcs_app]
    exact own_base ow3 hB
  have hbad : ∀ i o, some rb = some i → w1.heap[i]? = some o → badR o := fun i o e ho => by
    injection e with e
    subst e
    have := ho.symm.trans HB0.out
    injection this with this
    subst this
    exact .inl rfl
  exact IsRf.put HH.out.lo hb3 ow4 ((Below.refl B w1).grown g3 hB (fun i e => by injection e with e; subst e; exact HH.out.lo)) (fun pb S hp => hp.ref g3 hbad) (Keeps.of_row g3 hbad)
end Go.Proofs.Ytbhplleaokncpaa
