/-
  Lease: a message's bytes in plain Lean; the program's octets, and its options.
-/
import Derived.Test.YtgdlghieifadhaaOctL
import Derived.Test.YtgdlghieifadhaaLs
set_option linter.unusedVariables false
namespace Go.Proofs.Ytgdlghieifadhaa
open Go.RowKit

theorem le_byte (w : World) {B : Nat} (b : Nat) (X : List Kp) (l : List UInt8) (v : Int) (h : IsL w B b X l) (hv0 : 0 ≤ v) (hv1 : v ≤ 4294967295) (hl : l.length ≤ 1099511627776) (hBw : B ≤ w.heap.size) :
    Calls Try.prog 45 #[.pointer (some ⟨b, 0, none⟩), .int .i64 v] w fun e w' => e = .returned (.tuple #[]) ∧ IsL w' B b X (l ++ beB v.toNat 1) ∧ Below B w w' := by
  go_enter Try.func45, Try.ntmps45
  go_wp2_with fail
  refine (wlayL _ _ X l v 1 h hv0 hv1 (by omega) hl hBw).mono ?_
  rintro e w1 ⟨rfl, h1, h2⟩
  go_wp2
  go_end0
  exact ⟨rfl, h1, h2⟩
def zs (n : Nat) : List UInt8 := List.replicate n 0
def leO (p : Int × Int) : List UInt8 := if p.2 = 0 then [] else beB p.1.toNat 1 ++ beB 4 1 ++ beB p.2.toNat 4
theorem leO_len (p : Int × Int) : (leO p).length ≤ 6 := by
  unfold leO
  split
  · simp
  · simp [beB_len]
theorem leOs_len (l : List (Int × Int)) : (l.flatMap leO).length ≤ l.length * 6 := by
  induction l with
  | nil => simp
  | cons p l ih =>
    have := leO_len p
    rw [List.flatMap_cons, List.length_append, List.length_cons]
    omega
def oCs (l : List (Int × Int)) : List Value := l.flatMap fun p => [.int .u32 p.1, .int .u32 p.2]
theorem oCs_at {l : List (Int × Int)} {k : Nat} {p : Int × Int} (h : l[k]? = some p) : (oCs l)[k * 2]? = some (.int .u32 p.1) ∧ (oCs l)[k * 2 + 1]? = some (.int .u32 p.2) := by
  induction l generalizing k with
  | nil => simp at h
  | cons q l ih =>
    unfold oCs at ih ⊢
    rw [List.flatMap_cons]
    cases k with
    | zero => simp only [List.getElem?_cons_zero, Option.some.injEq] at h; subst h; simp
    | succ k =>
      rw [List.getElem?_cons_succ] at h
      have := ih h
      constructor
      · rw [show (k + 1) * 2 = k * 2 + 2 by omega]
        simpa using this.1
      · rw [show (k + 1) * 2 + 1 = k * 2 + 1 + 2 by omega]
        simpa using this.2
set_option maxRecDepth 100000 in
set_option maxHeartbeats 1600000 in
theorem optionsC (w : World) {B : Nat} (b : Nat) (X : List Kp) (l0 : List UInt8) (kind : Int) (g : Nat) (l : List (Int × Int)) (h : IsL w B b X l0) (k0 : 0 ≤ kind) (k1 : kind ≤ 255) (hX : (⟨g, 75, (oCs l).toArray⟩ : Kp) ∈ X) (hBw : B ≤ w.heap.size)
    (hp : ∀ p ∈ l, 0 ≤ p.1 ∧ p.1 ≤ 255 ∧ 0 ≤ p.2 ∧ p.2 ≤ 4294967295) (hl0 : l0.length ≤ 100000) (hll : l.length ≤ 100) :
    Calls Try.prog 48 #[.pointer (some ⟨b, 0, none⟩), .int .i64 kind, .slice (some ⟨g, 0, none⟩) l.length l.length] w fun e w' => e = .returned (.tuple #[]) ∧ IsL w' B b X (l0 ++ beB 53 1 ++ beB 1 1 ++ beB kind.toNat 1 ++ l.flatMap leO ++ beB 255 1) ∧ Below B w w' := by
  have HP := Lib.hid hp
  have HW := Lib.hid h
  clear hp h
  go_enter Try.func48, Try.ntmps48
  go_wp2_with fail
  refine (le_byte _ _ X l0 53 HW.out (by omega) (by omega) (by omega) hBw).mono ?_
  rintro e w1 ⟨rfl, h1, b1⟩
  have H1 := Lib.hid h1
  have B1 := Lib.hid b1
  have z1 := b1.size
  clear h1 b1
  go_wp2_with fail
  refine (le_byte _ _ X _ 1 H1.out (by omega) (by omega) (by simp [beB_len]; omega) (by omega)).mono ?_
  rintro e w2 ⟨rfl, h2, b2⟩
  have H2 := Lib.hid h2
  have B2 := Lib.hid (B1.out.trans b2)
  have z2 := b2.size
  clear h2 b2 H1
  go_wp2_with fail
  refine (le_byte _ _ X _ kind H2.out k0 (by omega) (by simp [beB_len]; omega) (by omega)).mono ?_
  rintro e w3 ⟨rfl, h3, b3⟩
  obtain ⟨l3, hl3⟩ : ∃ l3, l0 ++ beB 53 1 ++ beB 1 1 ++ beB kind.toNat 1 = l3 := ⟨_, rfl⟩
  have hl3n : l3.length ≤ 100003 := by rw [← hl3]; simp [beB_len]; omega
  have h3' : IsL w3 B b X l3 := by rw [← hl3]; exact h3
  have H3 := Lib.hid h3'
  have B3 := Lib.hid (B2.out.trans b3)
  have z3 := b3.size
  have HL3 := Lib.hid hl3
  clear h3 h3' b3 H2 hl3
  go_wp2
  go_loopw [17] (fun kv ws => ∃ k : Nat, kv = .int .i64 k ∧ k ≤ l.length ∧ Hid (IsL ws B b X (l3 ++ (l.take k).flatMap leO)) ∧ Hid (Below B w ws)) (fun kv _ => l.length - (intOf kv).toNat)
  case atStart => exact ⟨0, rfl, Nat.zero_le _, by show IsL _ _ _ _ _; simpa using H3.out, B3.out⟩
  case round =>
    clear H3 B3 B1 B2
    obtain ⟨k, rfl, hk, HI, HB⟩ := hrel
    have hsz := HB.out.size
    by_cases hlt : k < l.length
    · obtain ⟨p, hpk⟩ : ∃ p, l[k]? = some p := ⟨_, List.getElem?_eq_getElem hlt⟩
      obtain ⟨p0, p1, p2, p3⟩ := HP.out p (List.mem_of_getElem? hpk)
      obtain ⟨o0, o1⟩ := oCs_at hpk
      have GB := HI.out.blk hX
      have c0 : wr.cell? ⟨g, k * 2, none⟩ = some (.int .u32 p.1) := by rw [GB.cell]; simpa using o0
      have c1 : wr.cell? ⟨g, k * 2 + 1, none⟩ = some (.int .u32 p.2) := by rw [GB.cell]; simpa using o1
      have i0 : (0 : Int) ≤ k := by omega
      have i1 : (k : Int) < l.length := by omega
      have HT : Hid ((l.take (k + 1)).flatMap leO = (l.take k).flatMap leO ++ leO p) := by
        show _ = _
        rw [List.take_add_one, hpk]
        simp
      have hln : ((l.take k).flatMap leO).length ≤ 600 := by
        have := leOs_len (l.take k)
        rw [List.length_take] at this
        omega
      have HA := Lib.hid (HI.out.box 75 #[.int .u32 p.1, .int .u32 p.2])
      have BA : Hid (Below B w (wr.alloc (.cells #[.int .u32 p.1, .int .u32 p.2] 75))) := HB.out.alloc (by omega) _
      have HCELL : Hid (∀ j u, ([.int .u32 p.1, .int .u32 p.2] : List Value)[j]? = some u → wr.cell? ((⟨g, k * 2, none⟩ : Addr).add j) = some u) := fun j u hu => by
        rw [Addr.add_mid]
        match j, hu with
        | 0, hu => simp only [List.getElem?_cons_zero, Option.some.injEq] at hu; subst hu; exact c0
        | 1, hu => simp only [List.getElem?_cons_succ, List.getElem?_cons_zero, Option.some.injEq] at hu; subst hu; exact c1
      clear GB o0 o1 hpk
      have hln2 : (l3 ++ (l.take k).flatMap leO).length ≤ 200000 := by rw [List.length_append]; omega
      by_cases hz : p.2 = 0
      · have e0 : (p.2 == 0) = true := by simpa using hz
        have HN : Hid (IsL (wr.alloc (.cells #[.int .u32 p.1, .int .u32 p.2] 75)) B b X (l3 ++ (l.take (k + 1)).flatMap leO)) := by
          show IsL _ _ _ _ _
          rw [HT.out, show leO p = [] from if_pos hz, List.append_nil]
          exact HA.out.drop
        clear hz
        go_wp2
        go_roundw
        case rel => exact ⟨k + 1, by go_num, by omega, HN.out, BA.out⟩
        case measure => simp [intOf]; omega
      · have e0 : (p.2 == 0) = false := by simpa using hz
        have HLP : Hid (leO p = beB p.1.toNat 1 ++ beB 4 1 ++ beB p.2.toNat 4) := if_neg hz
        have hsa := BA.out.size
        clear hz
        have hXm : (⟨wr.heap.size, 75, #[.int .u32 p.1, .int .u32 p.2]⟩ : Kp) ∈ ((⟨wr.heap.size, 75, #[.int .u32 p.1, .int .u32 p.2]⟩ : Kp) :: X) := List.mem_cons_self ..
        have x0 := (HA.out.blk hXm).cell 0
        have x1' := (HA.out.blk hXm).cell 1
        simp only [List.getElem?_toArray, List.getElem?_cons_zero, List.getElem?_cons_succ] at x0 x1'
        go_wp2_with fail
        refine (le_byte _ _ _ _ p.1 HA.out p0 (by omega) (by omega) (by omega)).mono ?_
        rintro e w4 ⟨rfl, h4, b4⟩
        have H4 := Lib.hid h4
        have B4 := Lib.hid (BA.out.trans b4)
        have z4 := b4.size
        clear h4 b4
        go_wp2_with fail
        refine (le_byte _ _ _ _ 4 H4.out (by omega) (by omega) (by rw [List.length_append, beB_len]; omega) (by omega)).mono ?_
        rintro e w5 ⟨rfl, h5, b5⟩
        have H5 := Lib.hid h5
        have B5 := Lib.hid (B4.out.trans b5)
        have z5 := b5.size
        have x1 := (h5.blk hXm).cell 1
        simp only [List.getElem?_toArray, List.getElem?_cons_zero, List.getElem?_cons_succ] at x1
        clear h5 b5 H4
        go_wp2_with fail
        refine (wfourL _ _ _ _ p.2 H5.out p2 p3 (by rw [List.length_append, List.length_append, beB_len, beB_len]; omega) (by omega)).mono ?_
        rintro e w6 ⟨rfl, h6, b6⟩
        have HN : Hid (IsL w6 B b X (l3 ++ (l.take (k + 1)).flatMap leO)) := by
          show IsL _ _ _ _ _
          rw [HT.out, HLP.out]
          have h := h6.drop
          rw [show beB (Int.toNat 4) 1 = beB 4 1 from rfl] at h
          simpa only [List.append_assoc] using h
        have B6 := Lib.hid (B5.out.trans b6)
        clear h6 b6 H5
        go_wp2
        go_roundw
        case rel => exact ⟨k + 1, by go_num, by omega, HN.out, B6.out⟩
        case measure => simp [intOf]; omega
    · have hkl : k = l.length := by omega
      have HE : Hid (IsL wr B b X (l3 ++ l.flatMap leO)) := by
        have h := HI.out
        rw [hkl, List.take_length] at h
        exact h
      have hln := leOs_len l
      clear HI
      go_wp2_with fail
      refine (le_byte _ _ X _ 255 HE.out (by omega) (by omega) (by rw [List.length_append]; omega) (by omega)).mono ?_
      rintro e w4 ⟨rfl, h4, b4⟩
      have H4 := Lib.hid h4
      have B4 := Lib.hid (HB.out.trans b4)
      clear h4 b4
      go_wp2
      go_end0
      exact ⟨rfl, by rw [HL3.out]; exact H4.out, B4.out⟩
end Go.Proofs.Ytgdlghieifadhaa
