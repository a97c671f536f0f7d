/-
  The writer of bytes: what it holds, and what its methods lay behind that.
-/
import Derived.Test.YtjkmkafceeblpaaByt
set_option linter.unusedVariables false
namespace Go.Proofs.Ytjkmkafceeblpaa
open Go.RowKit

-- the writer in block b has written l; its row is its own, from block B on
def IsW (w : World) (B b : Nat) (l : List UInt8) : Prop :=
  B ≤ b ∧ ∃ v, Blk w b 83 #[v] ∧ w.ownsRow B 5 1 v l.length (Lib.byteCells l) ∧ v.ownBlock ≠ some b
theorem IsW.new {B b : Nat} (w : World) (hb : b = w.heap.size) (hB : B ≤ b) : IsW (w.alloc (.cells #[.slice none 0 0] 83)) B b [] := by
  subst hb
  exact ⟨hB, _, Blk.new w _ _, World.ownsRow_nil _ _ _ _, by simp [Value.ownBlock]⟩
theorem IsW.nx {w w' : World} {B b : Nat} {l : List UInt8} (h : IsW w B b l) (k : Below w.heap.size w w') : IsW w' B b l := by
  obtain ⟨hB, v, hb, hown, hne⟩ := h
  refine ⟨hB, v, hb.nx k, ⟨hown.1, ?_⟩, hne⟩
  rcases hown.2 with h0 | ⟨g, cap, cur, rfl, hg, hh, hr⟩
  · exact .inl h0
  · exact .inr ⟨g, cap, cur, rfl, hg, Blk.nx hh k, hr⟩
theorem IsW.al {w : World} {B b : Nat} {l : List UInt8} (h : IsW w B b l) (o : Obj) : IsW (w.alloc o) B b l := h.nx ((Below.refl _ _).alloc (Nat.le_refl _) o)

-- behind the append: the writer's cell is stored anew
theorem IsW.step {w w1 : World} {B b : Nat} {l ys : List UInt8} {v v1 : Value} (hB : B ≤ b) (hb : Blk w b 83 #[v]) (hown : w.ownsRow B 5 1 v l.length (Lib.byteCells l)) (hne : v.ownBlock ≠ some b)
    (own1 : w1.ownsRow B 5 1 v1 (l.length + ys.length) (Lib.byteCells l ++ Lib.byteCells ys)) (gr : w.grownBy w1 v.ownBlock) (at1 : v1.ownBlock = v.ownBlock ∨ v1.ownBlock = some w.heap.size) :
    IsW (w1.setCell ⟨b, 0, none⟩ v1) B b (l ++ ys) := by
  have hb1 := hb.grown gr (fun h => hne h.symm)
  have hlt := hb.lt
  have hne1 : v1.ownBlock ≠ some b := by
    rcases at1 with h | h
    · rw [h]; exact hne
    · rw [h]; intro h2; injection h2 with h2; omega
  refine ⟨hB, v1, hb1.set_ 0 v1, ?_, hne1⟩
  rw [List.length_append, byteCells_app]
  refine ⟨own1.1, ?_⟩
  rcases own1.2 with h0 | ⟨g, cap, cur, rfl, hg, hh, hr⟩
  · exact .inl h0
  · exact .inr ⟨g, cap, cur, rfl, hg, Blk.far hh (p := ⟨b, 0, none⟩) (by intro h; apply hne1; simp [Value.ownBlock]; exact h) _, hr⟩

theorem IsW.step1 {w w1 : World} {B b : Nat} {l : List UInt8} {v v1 : Value} {o : Obj} (hB : B ≤ b) (hb : Blk w b 83 #[v]) (hown : w.ownsRow B 5 1 v l.length (Lib.byteCells l)) (hne : v.ownBlock ≠ some b)
    (c : UInt8) (x : Int) (hx : x = c.toNat) (own1 : w1.ownsRow B 5 1 v1 (l.length + 1) (Lib.byteCells l ++ [.int .u8 x])) (gr : (w.alloc o).grownBy w1 v.ownBlock) (at1 : v1.ownBlock = v.ownBlock ∨ v1.ownBlock = some (w.alloc o).heap.size) :
    IsW (w1.setCell ⟨b, 0, none⟩ v1) B b (l ++ [c]) := by
  subst hx
  exact IsW.step (ys := [c]) hB (hb.alloc o) (hown.alloc o) hne own1 gr at1
-- a number's lowest n bytes, the highest first
def beB (v : Nat) : Nat → List UInt8
  | 0 => []
  | m + 1 => UInt8.ofNat (v / 256 ^ m % 256) :: beB v m
theorem beB_len (v n : Nat) : (beB v n).length = n := by
  induction n with
  | zero => rfl
  | succ n ih => simp [beB, ih]
set_option maxHeartbeats 800000 in
theorem wlay (w : World) {B : Nat} (b : Nat) (l : List UInt8) (v : Int) (n : Nat) (h : IsW w B b l) (hv0 : 0 ≤ v) (hv1 : v ≤ 4294967295) (hn : n ≤ 4) (hl : l.length ≤ 1099511627776) (hBw : B ≤ w.heap.size) :
    Calls Try.prog 59 #[.pointer (some ⟨b, 0, none⟩), .int .u32 v, .int .u64 n] w fun e w' => e = .returned (.tuple #[]) ∧ IsW w' B b (l ++ beB v.toNat n) ∧ Below B w w' := by
  go_enter Try.func59, Try.ntmps59
  go_wp2
  go_loopw [6] (fun s wr => ∃ (m : Nat) (k : List UInt8), m ≤ n ∧ s = .int .u64 (m * 8) ∧ IsW wr B b k ∧ Hid (k ++ beB v.toNat m = l ++ beB v.toNat n) ∧ k.length + m ≤ l.length + n ∧ Below B w wr) (fun s _ => (intOf s).toNat)
  case atStart => exact ⟨n, l, Nat.le_refl _, rfl, h, rfl, by omega, Below.refl _ _⟩
  case round =>
    obtain ⟨m, k, hm, rfl, hw, HK, hkl, hbl⟩ := hrel
    obtain ⟨hB, v0, hb, hown, hne⟩ := hw
    have hc := hb.cell 0
    simp only [List.getElem?_toArray, List.getElem?_cons_zero] at hc
    have HB := Lib.hid hb; clear hb
    have HO := Lib.hid hown; clear hown
    have HN := Lib.hid hne; clear hne
    by_cases h0 : m = 0
    · subst h0
      go_wp2
      go_end0
      exact ⟨rfl, by rw [← HK.out, show beB v.toNat 0 = [] from rfl, List.append_nil]; exact ⟨hB, v0, HB.out, HO.out, HN.out⟩, hbl⟩
    · obtain rfl | rfl | rfl | rfl : m = 1 ∨ m = 2 ∨ m = 3 ∨ m = 4 := by omega
      · have hz := hbl.size
        go_wp2_with (at_builtin; refine app_any stB rfl (.tmp 17) (.tmp 22) rfl B v0 k.length (Lib.byteCells k) rfl (HO.out.alloc _) _ 1 _ [_] rfl (Reads.one (blk_at _ _ _ rfl)) (by simp [Value.oneCell']) (by omega) (by omega) (by simp; omega) ?_; intro v1 w1 own1 gr1 at1 bel1; obtain ⟨ao, cap1, rfl⟩ := own_slice own1; have hc1 := ((HB.out.alloc _).grown gr1 (fun h => HN.out h.symm)).cell 0; have hf1 := ((HB.out.alloc _).grown gr1 (fun h => HN.out h.symm)).frozen 0; simp only [List.getElem?_toArray, List.getElem?_cons_zero] at hc1)
        go_roundw
        case rel => exact ⟨0, k ++ [UInt8.ofNat (v.toNat / 256 ^ 0 % 256)], by omega, rfl, IsW.step1 hB HB.out HO.out HN.out _ _ (by simp only [Nat.reducePow, UInt8.toNat_ofNat']; omega) own1 gr1 at1, Lib.hid (by rw [List.append_assoc]; exact HK.out), by rw [List.length_append]; simp; omega, (hbl.alloc (Nat.le_trans hBw hz) _).trans (bel1.setCell hB _)⟩
        case measure => simp [intOf]
      · have hz := hbl.size
        go_wp2_with (at_builtin; refine app_any stB rfl (.tmp 17) (.tmp 22) rfl B v0 k.length (Lib.byteCells k) rfl (HO.out.alloc _) _ 1 _ [_] rfl (Reads.one (blk_at _ _ _ rfl)) (by simp [Value.oneCell']) (by omega) (by omega) (by simp; omega) ?_; intro v1 w1 own1 gr1 at1 bel1; obtain ⟨ao, cap1, rfl⟩ := own_slice own1; have hc1 := ((HB.out.alloc _).grown gr1 (fun h => HN.out h.symm)).cell 0; have hf1 := ((HB.out.alloc _).grown gr1 (fun h => HN.out h.symm)).frozen 0; simp only [List.getElem?_toArray, List.getElem?_cons_zero] at hc1)
        go_roundw
        case rel => exact ⟨1, k ++ [UInt8.ofNat (v.toNat / 256 ^ 1 % 256)], by omega, rfl, IsW.step1 hB HB.out HO.out HN.out _ _ (by simp only [Nat.reducePow, UInt8.toNat_ofNat']; omega) own1 gr1 at1, Lib.hid (by rw [List.append_assoc]; exact HK.out), by rw [List.length_append]; simp; omega, (hbl.alloc (Nat.le_trans hBw hz) _).trans (bel1.setCell hB _)⟩
        case measure => simp [intOf]
      · have hz := hbl.size
        go_wp2_with (at_builtin; refine app_any stB rfl (.tmp 17) (.tmp 22) rfl B v0 k.length (Lib.byteCells k) rfl (HO.out.alloc _) _ 1 _ [_] rfl (Reads.one (blk_at _ _ _ rfl)) (by simp [Value.oneCell']) (by omega) (by omega) (by simp; omega) ?_; intro v1 w1 own1 gr1 at1 bel1; obtain ⟨ao, cap1, rfl⟩ := own_slice own1; have hc1 := ((HB.out.alloc _).grown gr1 (fun h => HN.out h.symm)).cell 0; have hf1 := ((HB.out.alloc _).grown gr1 (fun h => HN.out h.symm)).frozen 0; simp only [List.getElem?_toArray, List.getElem?_cons_zero] at hc1)
        go_roundw
        case rel => exact ⟨2, k ++ [UInt8.ofNat (v.toNat / 256 ^ 2 % 256)], by omega, rfl, IsW.step1 hB HB.out HO.out HN.out _ _ (by simp only [Nat.reducePow, UInt8.toNat_ofNat']; omega) own1 gr1 at1, Lib.hid (by rw [List.append_assoc]; exact HK.out), by rw [List.length_append]; simp; omega, (hbl.alloc (Nat.le_trans hBw hz) _).trans (bel1.setCell hB _)⟩
        case measure => simp [intOf]
      · have hz := hbl.size
        go_wp2_with (at_builtin; refine app_any stB rfl (.tmp 17) (.tmp 22) rfl B v0 k.length (Lib.byteCells k) rfl (HO.out.alloc _) _ 1 _ [_] rfl (Reads.one (blk_at _ _ _ rfl)) (by simp [Value.oneCell']) (by omega) (by omega) (by simp; omega) ?_; intro v1 w1 own1 gr1 at1 bel1; obtain ⟨ao, cap1, rfl⟩ := own_slice own1; have hc1 := ((HB.out.alloc _).grown gr1 (fun h => HN.out h.symm)).cell 0; have hf1 := ((HB.out.alloc _).grown gr1 (fun h => HN.out h.symm)).frozen 0; simp only [List.getElem?_toArray, List.getElem?_cons_zero] at hc1)
        go_roundw
        case rel => exact ⟨3, k ++ [UInt8.ofNat (v.toNat / 256 ^ 3 % 256)], by omega, rfl, IsW.step1 hB HB.out HO.out HN.out _ _ (by simp only [Nat.reducePow, UInt8.toNat_ofNat']; omega) own1 gr1 at1, Lib.hid (by rw [List.append_assoc]; exact HK.out), by rw [List.length_append]; simp; omega, (hbl.alloc (Nat.le_trans hBw hz) _).trans (bel1.setCell hB _)⟩
        case measure => simp [intOf]

set_option maxHeartbeats 400000 in
theorem wtwo (w : World) {B : Nat} (b : Nat) (l : List UInt8) (v : Int) (h : IsW w B b l) (hv0 : 0 ≤ v) (hv1 : v ≤ 4294967295) (hl : l.length ≤ 1099511627776) (hBw : B ≤ w.heap.size) :
    Calls Try.prog 39 #[.pointer (some ⟨b, 0, none⟩), .int .i64 v] w fun e w' => e = .returned (.tuple #[]) ∧ IsW w' B b (l ++ beB v.toNat 2) ∧ Below B w w' := by
  go_enter Try.func39, Try.ntmps39
  go_wp2_with fail
  refine (wlay _ _ l v 2 h hv0 hv1 (by omega) hl hBw).mono ?_
  rintro e w1 ⟨rfl, h1, h2⟩
  go_wp2
  go_end0
  exact ⟨rfl, h1, h2⟩
-- a new row that holds l
def IsRow (w w' : World) (l : List UInt8) (v : Value) : Prop := w'.ownsRow w.heap.size 5 1 v l.length (Lib.byteCells l) ∧ Below w.heap.size w w'
theorem IsRow.slice {w w' : World} {l : List UInt8} {v : Value} (h : IsRow w w' l v) : ∃ A n c, v = .slice A n c ∧ Hid (n = l.length) := by
  obtain ⟨A, c, h⟩ := own_slice h.1
  exact ⟨A, _, c, h, rfl⟩
theorem IsRow.bytes {w w' : World} {l : List UInt8} {A : Option Addr} {c : Nat} (h : IsRow w w' l (.slice A l.length c)) : Bytes w' A l := Bytes.own h.1
theorem IsW.bytes {w : World} {B b : Nat} {l : List UInt8} (h : IsW w B b l) : ∃ A c, Blk w b 83 #[.slice A l.length c] ∧ Bytes w A l := by
  obtain ⟨hB, v, hb, hown, hne⟩ := h
  obtain ⟨A, c, rfl⟩ := own_slice hown
  exact ⟨A, c, hb, Bytes.own hown⟩
set_option maxHeartbeats 400000 in
theorem wbytes (w : World) {B : Nat} (b : Nat) (l : List UInt8) (h : IsW w B b l) (hl : l.length ≤ 1099511627776) :
    Calls Try.prog 41 #[.pointer (some ⟨b, 0, none⟩)] w fun e w' => ∃ v, e = .returned v ∧ IsRow w w' l v := by
  obtain ⟨A, c, hb, hr⟩ := h.bytes
  have hc := hb.cell 0
  simp only [List.getElem?_toArray, List.getElem?_cons_zero] at hc
  clear hb
  go_enter Try.func41, Try.ntmps41
  go_wp2_with (at_builtin; refine app_any stB rfl (.const (.slice none 0 0)) (.tmp 6) rfl w.heap.size _ 0 [] rfl (World.ownsRow_nil _ _ _ _) A l.length c (Lib.byteCells l) rfl hr (one_u8 l) (by omega) (by omega) (Nat.le_refl _) ?_; intro v1 w1 own1 gr1 at1 bel1)
  go_ret
  exact ⟨v1, rfl, by simpa using own1, bel1⟩
end Go.Proofs.Ytjkmkafceeblpaa
