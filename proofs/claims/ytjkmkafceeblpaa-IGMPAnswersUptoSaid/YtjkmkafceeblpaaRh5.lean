/-
  Groups, the reference: a tick.
-/
import Derived.Test.YtjkmkafceeblpaaRh1
set_option linter.unusedVariables false
namespace Go.Proofs.Ytjkmkafceeblpaa
open Go.RowKit

theorem IsRh.cell {w : World} {B h g n c : Nat} {ms : List Mb} (o : IsRh w B h ms (.slice (some ⟨g, 0, none⟩) n c)) {i : Nat} {r r' : Mb} (hr : ms[i]? = some r) (j : Nat) (hj : j < 4) (u : Value) (he : r.cs.set j u = r'.cs) (hB : B ≤ w.heap.size) :
    IsRh (w.setCell ⟨g, i * 4 + j, none⟩ u) B h (ms.set i r') (.slice (some ⟨g, 0, none⟩) n c) ∧ Below B w (w.setCell ⟨g, i * 4 + j, none⟩ u) ∧ KeepT w.heap.size [59, 96] w (w.setCell ⟨g, i * 4 + j, none⟩ u) := by
  have hn : ∃ cur, Blk w g 96 cur ∧ B ≤ g := by
    rcases o.own.2 with ⟨h1, _⟩ | ⟨g', _, cur, h1, hb, hg, _⟩
    · injection h1 with h1; cases h1
    · injection h1 with h1; injection h1 with h1; injection h1 with h1; subst h1; exact ⟨_, hg, hb⟩
  obtain ⟨cur, hg, hb⟩ := hn
  have k : KeepT w.heap.size [96] w (w.setCell ⟨g, i * 4 + j, none⟩ u) := KeepT.of_set hg u (.inr (by simp)) (Nat.le_refl _)
  exact ⟨⟨k.blk_ o.host (by decide), o.own.set_ hr j hj u he, o.hb⟩, (Below.refl B w).setCell (p := ⟨g, i * 4 + j, none⟩) hb u, k.mono (by simp)⟩
theorem IsRh.fro {w : World} {B h g n c : Nat} {ms : List Mb} (o : IsRh w B h ms (.slice (some ⟨g, 0, none⟩) n c)) (i : Nat) : w.frozen? ⟨g, i, none⟩ = false := by
  rcases o.own.2 with ⟨h1, _⟩ | ⟨g', _, cur, h1, hb, hg, _⟩
  · injection h1 with h1; cases h1
  · injection h1 with h1; injection h1 with h1; injection h1 with h1; subst h1; exact Blk.frozen hg i
def RtP (w : World) (B h : Nat) (gs : List Gm) (os : List (Int × Int × Int)) (e : Ending) (w' : World) : Prop :=
  ∃ V v ms, e = .returned V ∧ OutM w w' V os ∧ IsRh w' B h ms v ∧ ms.map toG = gs ∧ Below B w w' ∧ KeepT w.heap.size [59, 96] w w'
theorem map_at {ms : List Mb} {k : Nat} {r : Mb} (h : ms[k]? = some r) : (ms.map toG)[k]? = some (toG r) := by rw [List.getElem?_map, h]; rfl
set_option maxRecDepth 10000 in
set_option maxHeartbeats 3200000 in
theorem rtickK (w : World) {B h : Nat} {ms : List Mb} {v : Value} (o : IsRh w B h ms v) (hn : ms.length ≤ 16) (now : Int) (hB : B ≤ w.heap.size) :
    Calls Try.prog 49 #[.pointer (some ⟨h, 0, none⟩), .int .i64 now] w fun e w' => RtP w B h ((ms.map toG).map (tickM now)) (tickO (ms.map toG) (ms.map toG).length now) e w' := by
  have HO := Lib.hid o
  obtain ⟨A, c, hv, hnc⟩ := o.own.form
  obtain ⟨n, hnn⟩ : ∃ n, ms.length = n := ⟨_, rfl⟩
  rw [hnn] at hv hnc hn
  subst hv
  have HN := Lib.hid hnn
  obtain ⟨gs, hgs⟩ : ∃ gs, ms.map toG = gs := ⟨_, rfl⟩
  have HGL : Hid (gs.length = n) := by show _ = _; rw [← hgs, List.length_map, hnn]
  have HG := Lib.hid hgs
  rw [hgs]
  clear o hnn hgs
  go_enter Try.func49, Try.ntmps49
  go_wp2
  go_loopw [5, 6] (fun l iv wr => ∃ (k : Nat) (mk : List Mb), iv = .int .i64 k ∧ k ≤ n ∧ Hid (OutM w wr l (tickO gs k now)) ∧ Hid (IsRh wr B h mk (.slice A n c)) ∧ Hid (mk.map toG = tickU gs k now) ∧ Hid (Below B w wr) ∧ Hid (KeepT w.heap.size [59, 96] w wr)) (fun _ iv _ => n - (intOf iv).toNat)
  case atStart => exact ⟨0, ms, rfl, Nat.zero_le _, OutM.nil _ _, HO.out, (by show _ = _; rw [HG.out]; simp [tickU]), (rf w).mono hB, KeepT.refl⟩
  case round =>
    obtain ⟨k, mk, rfl, hk, Vk, Ok, Mk, Bk, Kk⟩ := hrel
    obtain ⟨os, hos⟩ : ∃ os, tickO gs k now = os := ⟨_, rfl⟩
    rw [hos] at Vk
    have HMS := Lib.hid hos
    obtain ⟨VA, vc, rfl⟩ := own_slice (size := 3) Vk.out
    obtain ⟨q, hq⟩ : ∃ q, os.length = q := ⟨_, rfl⟩
    have VQ : Hid (wr.ownsRow w.heap.size 27 3 (.slice VA q vc) q (flatM os)) := by
      have h := Vk.out
      unfold OutM at h
      rw [hq] at h
      exact h
    have hq16 : q ≤ 16 := by
      rw [← hq, ← hos]
      unfold tickO
      rw [List.length_map]
      have h1 := List.length_filter_le (firedM now) (gs.take k)
      rw [List.length_take] at h1
      omega
    have HQ := Lib.hid hq
    rw [hq]
    clear hos hq Vk
    have zk := Bk.out.size
    have ckr : wr.cell? ⟨h, 0, none⟩ = some (.slice A n c) := Ok.out.host.cell 0
    by_cases hkn : k < n
    · have k0 : (0 : Int) ≤ k := by omega
      have k1 : (k : Int) < n := by omega
      obtain ⟨m, hm⟩ : ∃ m, gs[k]? = some m := ⟨_, List.getElem?_eq_getElem (by rw [HGL.out]; exact hkn)⟩
      have hmk : (tickU gs k now)[k]? = some m := tickU_at hm
      obtain ⟨r, hr⟩ : ∃ r, mk[k]? = some r := ⟨_, List.getElem?_eq_getElem (by
        have := congrArg List.length Mk.out
        rw [List.length_map, tickU_len, HGL.out] at this
        omega)⟩
      have hrm : toG r = m := by
        have h1 := map_at hr
        rw [Mk.out, hmk] at h1
        injection h1 with h1
        exact h1.symm
      obtain ⟨g, hA, _, d0, d1, d2, d3⟩ := OwnB.cells Ok.out.own hr
      subst hA
      have hU := tickU_succ (now := now) hm
      have hO := tickO_succ (now := now) hm
      have HMK := Lib.hid hmk
      have HR := Lib.hid hr
      have HRM := Lib.hid hrm
      have f1 := Ok.out.fro (k * 4 + 1)
      have f3 := Ok.out.fro (k * 4 + 3)
      have hdu : (r.timed = false ∧ firedM now m = false) ∨ (r.timed = true ∧ ¬ r.at_ ≤ now ∧ firedM now m = false) ∨ (r.timed = true ∧ r.at_ ≤ now ∧ firedM now m = true) := by
        rw [← hrm]
        unfold firedM toG
        cases ht : r.timed with
        | false => exact .inl ⟨rfl, by simp⟩
        | true =>
          by_cases hy : r.at_ ≤ now
          · exact .inr (.inr ⟨rfl, hy, by simpa using hy⟩)
          · exact .inr (.inl ⟨rfl, hy, by simpa using hy⟩)
      have stay : firedM now m = false → mk.map toG = tickU gs (k + 1) now ∧ tickO gs (k + 1) now = tickO gs k now := fun hf => by
        rw [hU, hO, hf]
        unfold tickM
        rw [hf]
        rw [if_neg (by simp), if_neg (by simp), List.append_nil, set_same _ _ _ HMK.out]
        exact ⟨Mk.out, rfl⟩
      have HST := Lib.hid stay
      have HU := Lib.hid hU
      have HOO := Lib.hid hO
      clear stay hU hO hm hmk hr hrm
      rcases hdu with ⟨ht, hf⟩ | ⟨ht, hy, hf⟩ | ⟨ht, hy, hf⟩
      · rw [ht] at d1
        have HS := Lib.hid (HST.out hf)
        clear ht hf
        go_wp2
        go_roundw
        case rel => exact ⟨k + 1, mk, by go_num, by omega, (by show OutM w wr _ (tickO gs (k + 1) now); rw [HS.out.2, HMS.out]; unfold OutM; rw [HQ.out]; exact VQ.out), Ok.out, HS.out.1, Bk.out, Kk.out⟩
        case measure => simp [intOf]; omega
      · rw [ht] at d1
        have HS := Lib.hid (HST.out hf)
        clear ht hf
        go_wp2
        go_roundw
        case rel => exact ⟨k + 1, mk, by go_num, by omega, (by show OutM w wr _ (tickO gs (k + 1) now); rw [HS.out.2, HMS.out]; unfold OutM; rw [HQ.out]; exact VQ.out), Ok.out, HS.out.1, Bk.out, Kk.out⟩
        case measure => simp [intOf]; omega
      · have HF := Lib.hid hf
        have s1 := Ok.out.cell HR.out 1 (by omega) (.bool false) (r' := { r with timed := false }) rfl (by omega)
        have hz1 := s1.2.1.size
        have s2 := s1.1.cell (i := k) (r := { r with timed := false }) (by rw [List.getElem?_set, if_pos rfl, if_pos (List.getElem?_eq_some_iff.1 HR.out).1]) 3 (by omega) (.bool true) (r' := { r with timed := false, ours := true }) rfl (by omega)
        rw [List.set_set] at s2
        have O2 := Lib.hid s2.1
        have M2 : Hid ((mk.set k { r with timed := false, ours := true }).map toG = tickU gs (k + 1) now) := by
          show _ = _
          rw [HU.out, List.map_set, Mk.out]
          congr 1
          unfold tickM
          rw [HF.out, if_pos rfl, ← HRM.out]
          rfl
        have B2 := Lib.hid ((Bk.out.trans s1.2.1).trans s2.2.1)
        have K2 := Lib.hid ((Kk.out.trans (s1.2.2.less zk)).trans (s2.2.2.less (by omega)))
        have V2 : Hid (World.ownsRow ((wr.setCell ⟨g, k * 4 + 1, none⟩ (.bool false)).setCell ⟨g, k * 4 + 3, none⟩ (.bool true)) w.heap.size 27 3 (.slice VA q vc) q (flatM os)) := s2.2.2.own (s1.2.2.own VQ.out (by decide)) (by decide)
        have hz2 := s2.2.1.size
        have HZ2 : Hid (w.heap.size ≤ ((wr.setCell ⟨g, k * 4 + 1, none⟩ (.bool false)).setCell ⟨g, k * 4 + 3, none⟩ (.bool true)).heap.size) := by show _ ≤ _; omega
        have HGA : Hid (m.a = r.g) := by show _ = _; rw [← HRM.out]; rfl
        have hck2 : ((wr.setCell ⟨g, k * 4 + 1, none⟩ (.bool false)).setCell ⟨g, k * 4 + 3, none⟩ (.bool true)).cell? ⟨h, 0, none⟩ = some (.slice (some ⟨g, 0, none⟩) n c) := O2.out.host.cell 0
        have hck1 : (wr.setCell ⟨g, k * 4 + 1, none⟩ (.bool false)).cell? ⟨h, 0, none⟩ = some (.slice (some ⟨g, 0, none⟩) n c) := s1.1.host.cell 0
        rw [ht] at d1
        clear ht hf s1 s2 hz1 hz2
        have V3 := Lib.hid (own_nx V2.out (al (rf ((wr.setCell ⟨g, k * 4 + 1, none⟩ (.bool false)).setCell ⟨g, k * 4 + 3, none⟩ (.bool true))) (.cells #[.int .i64 22, .int .i64 0, .int .u32 r.g] 27)))
        have O3 := Lib.hid (O2.out.nx (al (rf ((wr.setCell ⟨g, k * 4 + 1, none⟩ (.bool false)).setCell ⟨g, k * 4 + 3, none⟩ (.bool true))) (.cells #[.int .i64 22, .int .i64 0, .int .u32 r.g] 27)))
        have hz3 : w.heap.size ≤ (((wr.setCell ⟨g, k * 4 + 1, none⟩ (.bool false)).setCell ⟨g, k * 4 + 3, none⟩ (.bool true)).alloc (.cells #[.int .i64 22, .int .i64 0, .int .u32 r.g] 27)).heap.size := by have := HZ2.out; simp at this ⊢; omega
        have B3 := Lib.hid (B2.out.trans ((al (rf ((wr.setCell ⟨g, k * 4 + 1, none⟩ (.bool false)).setCell ⟨g, k * 4 + 3, none⟩ (.bool true))) (.cells #[.int .i64 22, .int .i64 0, .int .u32 r.g] 27)).mono (by have := HZ2.out; omega)))
        have K3 := Lib.hid (K2.out.trans (KeepT.of_below (al (rf ((wr.setCell ⟨g, k * 4 + 1, none⟩ (.bool false)).setCell ⟨g, k * 4 + 3, none⟩ (.bool true))) (.cells #[.int .i64 22, .int .i64 0, .int .u32 r.g] 27)) HZ2.out))
        go_wp2_with (at_builtin
                     refine app_any stM rfl (.tmp 50) (.tmp 60) rfl w.heap.size (.slice VA q vc) q (flatM os) rfl V3.out _ 1 1 [.int .i64 22, .int .i64 0, .int .u32 r.g] rfl ⟨rfl, fun _ => ⟨_, rfl, ?cs0, fun j u hj => ?cs⟩⟩ (by intro u hu; simp at hu; rcases hu with rfl | rfl | rfl <;> rfl) (by omega) (by omega) hz3 ?_
                     case cs0 => simp
                     case cs => (match j, hj with | 0, hj => (cases hj; exact (blk_at ((wr.setCell ⟨g, k * 4 + 1, none⟩ (.bool false)).setCell ⟨g, k * 4 + 3, none⟩ (.bool true)) _ _ (by simp)).cell 0) | 1, hj => (cases hj; exact (blk_at ((wr.setCell ⟨g, k * 4 + 1, none⟩ (.bool false)).setCell ⟨g, k * 4 + 3, none⟩ (.bool true)) _ _ (by simp)).cell 1) | 2, hj => (cases hj; exact (blk_at ((wr.setCell ⟨g, k * 4 + 1, none⟩ (.bool false)).setCell ⟨g, k * 4 + 3, none⟩ (.bool true)) _ _ (by simp)).cell 2))
                     intro v4 w4 own4 gr4 at4 bel4
                     obtain ⟨A4, c4, rfl⟩ := own_slice own4)
        have k4 : KeepT (((wr.setCell ⟨g, k * 4 + 1, none⟩ (.bool false)).setCell ⟨g, k * 4 + 3, none⟩ (.bool true)).alloc (.cells #[.int .i64 22, .int .i64 0, .int .u32 r.g] 27)).heap.size [27] (((wr.setCell ⟨g, k * 4 + 1, none⟩ (.bool false)).setCell ⟨g, k * 4 + 3, none⟩ (.bool true)).alloc (.cells #[.int .i64 22, .int .i64 0, .int .u32 r.g] 27)) w4 := KeepT.of_row gr4 V3.out (.inr (by simp)) (Nat.le_refl _)
        have k4' : KeepT w.heap.size [59, 96] (((wr.setCell ⟨g, k * 4 + 1, none⟩ (.bool false)).setCell ⟨g, k * 4 + 3, none⟩ (.bool true)).alloc (.cells #[.int .i64 22, .int .i64 0, .int .u32 r.g] 27)) w4 := KeepT.of_row gr4 V3.out (.inl (Nat.le_refl _)) hz3
        have O4 := Lib.hid (O3.out.keep k4 (by decide) (by decide))
        have B4 := Lib.hid (B3.out.trans (bel4.mono hB))
        have K4 := Lib.hid (K3.out.trans k4')
        have V4 : Hid (OutM w w4 (.slice A4 (q + 1) c4) (tickO gs (k + 1) now)) := by
          show OutM _ _ _ _
          rw [HOO.out, HF.out, if_pos rfl, HMS.out]
          unfold OutM
          rw [flatM_app, List.length_append, HQ.out, HGA.out]
          exact own4
        clear own4 gr4 at4 bel4 k4 k4' d0 d1 d2 d3 f1 f3 hck1 hck2 ckr
        go_wp2
        go_roundw
        case rel => exact ⟨k + 1, _, by go_num, by omega, V4.out, O4.out, M2.out, B4.out, K4.out⟩
        case measure => simp [intOf]; omega
    · obtain rfl : k = n := by omega
      have hE : RtP w B h (gs.map (tickM now)) (tickO gs gs.length now) (.returned (.slice VA q vc)) wr := by
        rw [← tickU_all, HGL.out]
        exact ⟨_, _, _, rfl, (by rw [HMS.out]; unfold OutM; rw [HQ.out]; exact VQ.out), Ok.out, Mk.out, Bk.out, Kk.out⟩
      have HEE := Lib.hid hE
      clear hE
      go_wp2
      go_ret
      exact HEE.out
end Go.Proofs.Ytjkmkafceeblpaa
