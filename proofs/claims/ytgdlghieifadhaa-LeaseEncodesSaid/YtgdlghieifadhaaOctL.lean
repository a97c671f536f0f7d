/-
  The writer of bytes beside a list of blocks that are kept (boxes that are younger than the writer). Printed by gen_octl.py.
-/
import Derived.Test.YtgdlghieifadhaaOctW
set_option linter.unusedVariables false
namespace Go.Proofs.Ytgdlghieifadhaa
open Go.RowKit

structure Kp where
  x : Nat
  T : TypeId
  R : Array Value
def IsL (w : World) (B b : Nat) (X : List Kp) (l : List UInt8) : Prop :=
  B ≤ b ∧ (∀ p ∈ X, p.x ≠ b) ∧ (∀ p ∈ X, Blk w p.x p.T p.R) ∧ ∃ v, Blk w b 68 #[v] ∧ w.ownsRow B 5 1 v l.length (Lib.byteCells l) ∧ v.ownBlock ≠ some b ∧ ∀ p ∈ X, v.ownBlock ≠ some p.x
theorem IsL.isW {w : World} {B b : Nat} {X : List Kp} {l : List UInt8} (h : IsL w B b X l) : IsW w B b l := by
  obtain ⟨hB, _, _, v, hb, ho, hn, _⟩ := h
  exact ⟨hB, v, hb, ho, hn⟩
theorem IsW.isL {w : World} {B b : Nat} {l : List UInt8} (h : IsW w B b l) : IsL w B b [] l := by
  obtain ⟨hB, v, hb, ho, hn⟩ := h
  exact ⟨hB, by simp, by simp, v, hb, ho, hn, by simp⟩
theorem IsL.blk {w : World} {B b : Nat} {X : List Kp} {l : List UInt8} (h : IsL w B b X l) {p : Kp} (hp : p ∈ X) : Blk w p.x p.T p.R := h.2.2.1 p hp
theorem IsL.drop {w : World} {B b : Nat} {p : Kp} {X : List Kp} {l : List UInt8} (h : IsL w B b (p :: X) l) : IsL w B b X l := by
  obtain ⟨hB, h1, h2, v, hb, ho, hn, h3⟩ := h
  exact ⟨hB, fun q hq => h1 q (List.mem_cons_of_mem _ hq), fun q hq => h2 q (List.mem_cons_of_mem _ hq), v, hb, ho, hn, fun q hq => h3 q (List.mem_cons_of_mem _ hq)⟩
theorem IsL.nx {w w' : World} {B b : Nat} {X : List Kp} {l : List UInt8} (h : IsL w B b X l) (k : Below w.heap.size w w') : IsL w' B b X l := by
  obtain ⟨hB, hxb, hX, v, hb, hown, hne, hnx⟩ := h
  refine ⟨hB, hxb, fun p hp => (hX p hp).nx k, v, hb.nx k, ⟨hown.1, ?_⟩, hne, hnx⟩
  rcases hown.2 with h0 | ⟨g, cap, cur, rfl, hg, hh, hr⟩
  · exact .inl h0
  · exact .inr ⟨g, cap, cur, rfl, hg, Blk.nx hh k, hr⟩
theorem IsL.box {w : World} {B b : Nat} {X : List Kp} {l : List UInt8} (h : IsL w B b X l) (T : TypeId) (R : Array Value) : IsL (w.alloc (.cells R T)) B b (⟨w.heap.size, T, R⟩ :: X) l := by
  obtain ⟨hB, hxb, hX, v, hb, hown, hne, hnx⟩ := h
  have hlt := hb.lt
  refine ⟨hB, fun p hp => ?_, fun p hp => ?_, v, hb.alloc _, hown.alloc _, hne, fun p hp => ?_⟩
  · rcases List.mem_cons.1 hp with rfl | hp
    · show w.heap.size ≠ b; omega
    · exact hxb p hp
  · rcases List.mem_cons.1 hp with rfl | hp
    · exact Blk.new w _ _
    · exact (hX p hp).alloc _
  · rcases List.mem_cons.1 hp with rfl | hp
    · rcases hown.2 with h0 | ⟨g, cap, cur, rfl, hg, hh, hr⟩
      · simp [h0, Value.ownBlock]
      · have := Blk.lt hh
        simp [Value.ownBlock]; omega
    · exact hnx p hp
theorem IsL.step {w w1 : World} {B b : Nat} {X : List Kp} {l ys : List UInt8} {v v1 : Value} (hB : B ≤ b) (hxb : ∀ p ∈ X, p.x ≠ b) (hX : ∀ p ∈ X, Blk w p.x p.T p.R) (hb : Blk w b 68 #[v]) (hown : w.ownsRow B 5 1 v l.length (Lib.byteCells l)) (hne : v.ownBlock ≠ some b) (hnx : ∀ p ∈ X, v.ownBlock ≠ some p.x)
    (own1 : w1.ownsRow B 5 1 v1 (l.length + ys.length) (Lib.byteCells l ++ Lib.byteCells ys)) (gr : w.grownBy w1 v.ownBlock) (at1 : v1.ownBlock = v.ownBlock ∨ v1.ownBlock = some w.heap.size) :
    IsL (w1.setCell ⟨b, 0, none⟩ v1) B b X (l ++ ys) := by
  have hb1 := hb.grown gr (fun h => hne h.symm)
  have hlb := hb.lt
  have hne1 : v1.ownBlock ≠ some b := by
    rcases at1 with h | h
    · rw [h]; exact hne
    · rw [h]; intro h2; injection h2 with h2; omega
  refine ⟨hB, hxb, fun p hp => ((hX p hp).grown gr (fun h => hnx p hp h.symm)).far (p := ⟨b, 0, none⟩) (hxb p hp) v1, v1, hb1.set_ 0 v1, ?_, hne1, fun p hp => ?_⟩
  · rw [List.length_append, byteCells_app]
    refine ⟨own1.1, ?_⟩
    rcases own1.2 with h0 | ⟨g, cap, cur, rfl, hg, hh, hr⟩
    · exact .inl h0
    · exact .inr ⟨g, cap, cur, rfl, hg, Blk.far hh (p := ⟨b, 0, none⟩) (by intro h; apply hne1; simp [Value.ownBlock]; exact h) _, hr⟩
  · have hlt := (hX p hp).lt
    rcases at1 with h | h
    · rw [h]; exact hnx p hp
    · rw [h]; intro h2; injection h2 with h2; omega
theorem IsL.step1 {w w1 : World} {B b : Nat} {X : List Kp} {l : List UInt8} {v v1 : Value} {o : Obj} (hB : B ≤ b) (hxb : ∀ p ∈ X, p.x ≠ b) (hX : ∀ p ∈ X, Blk w p.x p.T p.R) (hb : Blk w b 68 #[v]) (hown : w.ownsRow B 5 1 v l.length (Lib.byteCells l)) (hne : v.ownBlock ≠ some b) (hnx : ∀ p ∈ X, v.ownBlock ≠ some p.x)
    (c : UInt8) (y : Int) (hy : y = c.toNat) (own1 : w1.ownsRow B 5 1 v1 (l.length + 1) (Lib.byteCells l ++ [.int .u8 y])) (gr : (w.alloc o).grownBy w1 v.ownBlock) (at1 : v1.ownBlock = v.ownBlock ∨ v1.ownBlock = some (w.alloc o).heap.size) :
    IsL (w1.setCell ⟨b, 0, none⟩ v1) B b X (l ++ [c]) := by
  subst hy
  exact IsL.step (ys := [c]) hB hxb (fun p hp => (hX p hp).alloc o) (hb.alloc o) (hown.alloc o) hne hnx own1 gr at1
set_option maxHeartbeats 400000 in
theorem wrawL (w : World) {B : Nat} (b : Nat) (X : List Kp) (l ys : List UInt8) (A : Option Addr) (n c : Nat) (h : IsL w B b X l) (hr : Bytes w A ys) (hn : n = ys.length) (hl : l.length + ys.length ≤ 1099511627776) (hBw : B ≤ w.heap.size) :
    Calls Try.prog 44 #[.pointer (some ⟨b, 0, none⟩), .slice A n c] w fun e w' => e = .returned (.tuple #[]) ∧ IsL w' B b X (l ++ ys) ∧ Below B w w' := by
  subst hn
  obtain ⟨hB, hxb, hX, v, hb, hown, hne, hnx⟩ := h
  have hc := hb.cell 0
  simp only [List.getElem?_toArray, List.getElem?_cons_zero] at hc
  have HB := Lib.hid hb; clear hb
  have HO := Lib.hid hown; clear hown
  have HN := Lib.hid hne; clear hne
  have HX := Lib.hid hX; clear hX
  have HNX := Lib.hid hnx; clear hnx
  go_enter Try.func44, Try.ntmps44
  go_wp2_with (at_builtin; refine app_any stB rfl (.tmp 8) (.tmp 9) rfl B v l.length (Lib.byteCells l) rfl HO.out A ys.length c (Lib.byteCells ys) rfl hr (one_u8 ys) (by omega) (by omega) hBw ?_; intro v1 w1 own1 gr1 at1 bel1; obtain ⟨ao, cap1, rfl⟩ := own_slice own1; have hc1 := (HB.out.grown gr1 (fun h => HN.out h.symm)).cell 0; have hf1 := (HB.out.grown gr1 (fun h => HN.out h.symm)).frozen 0; simp only [List.getElem?_toArray, List.getElem?_cons_zero] at hc1)
  go_end0
  exact ⟨rfl, IsL.step hB hxb HX.out HB.out HO.out HN.out HNX.out own1 gr1 at1, bel1.setCell hB _⟩
set_option maxHeartbeats 800000 in
theorem wlayL (w : World) {B : Nat} (b : Nat) (X : List Kp) (l : List UInt8) (v : Int) (n : Nat) (h : IsL w B b X l) (hv0 : 0 ≤ v) (hv1 : v ≤ 4294967295) (hn : n ≤ 4) (hl : l.length ≤ 1099511627776) (hBw : B ≤ w.heap.size) :
    Calls Try.prog 59 #[.pointer (some ⟨b, 0, none⟩), .int .u32 v, .int .u64 n] w fun e w' => e = .returned (.tuple #[]) ∧ IsL w' B b X (l ++ beB v.toNat n) ∧ Below B w w' := by
  go_enter Try.func59, Try.ntmps59
  go_wp2
  go_loopw [6] (fun s wr => ∃ (m : Nat) (k : List UInt8), m ≤ n ∧ s = .int .u64 (m * 8) ∧ IsL wr B b X k ∧ Hid (k ++ beB v.toNat m = l ++ beB v.toNat n) ∧ k.length + m ≤ l.length + n ∧ Below B w wr) (fun s _ => (intOf s).toNat)
  case atStart => exact ⟨n, l, Nat.le_refl _, rfl, h, rfl, by omega, Below.refl _ _⟩
  case round =>
    obtain ⟨m, k, hm, rfl, hw, HK, hkl, hbl⟩ := hrel
    obtain ⟨hB, hxb, hX, v0, hb, hown, hne, hnx⟩ := hw
    have hc := hb.cell 0
    simp only [List.getElem?_toArray, List.getElem?_cons_zero] at hc
    have HB := Lib.hid hb; clear hb
    have HO := Lib.hid hown; clear hown
    have HN := Lib.hid hne; clear hne
    have HX := Lib.hid hX; clear hX
    have HNX := Lib.hid hnx; clear hnx
    by_cases h0 : m = 0
    · subst h0
      go_wp2
      go_end0
      exact ⟨rfl, by rw [← HK.out, show beB v.toNat 0 = [] from rfl, List.append_nil]; exact ⟨hB, hxb, HX.out, v0, HB.out, HO.out, HN.out, HNX.out⟩, hbl⟩
    · obtain rfl | rfl | rfl | rfl : m = 1 ∨ m = 2 ∨ m = 3 ∨ m = 4 := by omega
      · have hz := hbl.size
        go_wp2_with (at_builtin; refine app_any stB rfl (.tmp 17) (.tmp 22) rfl B v0 k.length (Lib.byteCells k) rfl (HO.out.alloc _) _ 1 _ [_] rfl (Reads.one (blk_at _ _ _ rfl)) (by simp [Value.oneCell']) (by omega) (by omega) (by simp; omega) ?_; intro v1 w1 own1 gr1 at1 bel1; obtain ⟨ao, cap1, rfl⟩ := own_slice own1; have hc1 := ((HB.out.alloc _).grown gr1 (fun h => HN.out h.symm)).cell 0; have hf1 := ((HB.out.alloc _).grown gr1 (fun h => HN.out h.symm)).frozen 0; simp only [List.getElem?_toArray, List.getElem?_cons_zero] at hc1)
        go_roundw
        case rel => exact ⟨0, k ++ [UInt8.ofNat (v.toNat / 256 ^ 0 % 256)], by omega, rfl, IsL.step1 hB hxb HX.out HB.out HO.out HN.out HNX.out _ _ (by simp only [Nat.reducePow, UInt8.toNat_ofNat']; omega) own1 gr1 at1, Lib.hid (by rw [List.append_assoc]; exact HK.out), by rw [List.length_append]; simp; omega, (hbl.alloc (Nat.le_trans hBw hz) _).trans (bel1.setCell hB _)⟩
        case measure => simp [intOf]
      · have hz := hbl.size
        go_wp2_with (at_builtin; refine app_any stB rfl (.tmp 17) (.tmp 22) rfl B v0 k.length (Lib.byteCells k) rfl (HO.out.alloc _) _ 1 _ [_] rfl (Reads.one (blk_at _ _ _ rfl)) (by simp [Value.oneCell']) (by omega) (by omega) (by simp; omega) ?_; intro v1 w1 own1 gr1 at1 bel1; obtain ⟨ao, cap1, rfl⟩ := own_slice own1; have hc1 := ((HB.out.alloc _).grown gr1 (fun h => HN.out h.symm)).cell 0; have hf1 := ((HB.out.alloc _).grown gr1 (fun h => HN.out h.symm)).frozen 0; simp only [List.getElem?_toArray, List.getElem?_cons_zero] at hc1)
        go_roundw
        case rel => exact ⟨1, k ++ [UInt8.ofNat (v.toNat / 256 ^ 1 % 256)], by omega, rfl, IsL.step1 hB hxb HX.out HB.out HO.out HN.out HNX.out _ _ (by simp only [Nat.reducePow, UInt8.toNat_ofNat']; omega) own1 gr1 at1, Lib.hid (by rw [List.append_assoc]; exact HK.out), by rw [List.length_append]; simp; omega, (hbl.alloc (Nat.le_trans hBw hz) _).trans (bel1.setCell hB _)⟩
        case measure => simp [intOf]
      · have hz := hbl.size
        go_wp2_with (at_builtin; refine app_any stB rfl (.tmp 17) (.tmp 22) rfl B v0 k.length (Lib.byteCells k) rfl (HO.out.alloc _) _ 1 _ [_] rfl (Reads.one (blk_at _ _ _ rfl)) (by simp [Value.oneCell']) (by omega) (by omega) (by simp; omega) ?_; intro v1 w1 own1 gr1 at1 bel1; obtain ⟨ao, cap1, rfl⟩ := own_slice own1; have hc1 := ((HB.out.alloc _).grown gr1 (fun h => HN.out h.symm)).cell 0; have hf1 := ((HB.out.alloc _).grown gr1 (fun h => HN.out h.symm)).frozen 0; simp only [List.getElem?_toArray, List.getElem?_cons_zero] at hc1)
        go_roundw
        case rel => exact ⟨2, k ++ [UInt8.ofNat (v.toNat / 256 ^ 2 % 256)], by omega, rfl, IsL.step1 hB hxb HX.out HB.out HO.out HN.out HNX.out _ _ (by simp only [Nat.reducePow, UInt8.toNat_ofNat']; omega) own1 gr1 at1, Lib.hid (by rw [List.append_assoc]; exact HK.out), by rw [List.length_append]; simp; omega, (hbl.alloc (Nat.le_trans hBw hz) _).trans (bel1.setCell hB _)⟩
        case measure => simp [intOf]
      · have hz := hbl.size
        go_wp2_with (at_builtin; refine app_any stB rfl (.tmp 17) (.tmp 22) rfl B v0 k.length (Lib.byteCells k) rfl (HO.out.alloc _) _ 1 _ [_] rfl (Reads.one (blk_at _ _ _ rfl)) (by simp [Value.oneCell']) (by omega) (by omega) (by simp; omega) ?_; intro v1 w1 own1 gr1 at1 bel1; obtain ⟨ao, cap1, rfl⟩ := own_slice own1; have hc1 := ((HB.out.alloc _).grown gr1 (fun h => HN.out h.symm)).cell 0; have hf1 := ((HB.out.alloc _).grown gr1 (fun h => HN.out h.symm)).frozen 0; simp only [List.getElem?_toArray, List.getElem?_cons_zero] at hc1)
        go_roundw
        case rel => exact ⟨3, k ++ [UInt8.ofNat (v.toNat / 256 ^ 3 % 256)], by omega, rfl, IsL.step1 hB hxb HX.out HB.out HO.out HN.out HNX.out _ _ (by simp only [Nat.reducePow, UInt8.toNat_ofNat']; omega) own1 gr1 at1, Lib.hid (by rw [List.append_assoc]; exact HK.out), by rw [List.length_append]; simp; omega, (hbl.alloc (Nat.le_trans hBw hz) _).trans (bel1.setCell hB _)⟩
        case measure => simp [intOf]
set_option maxHeartbeats 400000 in
theorem wfourL (w : World) {B : Nat} (b : Nat) (X : List Kp) (l : List UInt8) (v : Int) (h : IsL w B b X l) (hv0 : 0 ≤ v) (hv1 : v ≤ 4294967295) (hl : l.length ≤ 1099511627776) (hBw : B ≤ w.heap.size) :
    Calls Try.prog 46 #[.pointer (some ⟨b, 0, none⟩), .int .u32 v] w fun e w' => e = .returned (.tuple #[]) ∧ IsL w' B b X (l ++ beB v.toNat 4) ∧ Below B w w' := by
  go_enter Try.func46, Try.ntmps46
  go_wp2_with fail
  refine (wlayL _ _ X l v 4 h hv0 hv1 (by omega) hl hBw).mono ?_
  rintro e w1 ⟨rfl, h1, h2⟩
  go_wp2
  go_end0
  exact ⟨rfl, h1, h2⟩
end Go.Proofs.Ytgdlghieifadhaa
