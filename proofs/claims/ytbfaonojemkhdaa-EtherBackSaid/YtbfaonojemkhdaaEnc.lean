/-
  A frame's bytes: the plain rule, and the program's Encode by it.
-/
import Derived.Test.YtbfaonojemkhdaaMac
import Derived.Test.YtbfaonojemkhdaaOctW
set_option linter.unusedVariables false
namespace Go.Proofs.Ytbfaonojemkhdaa
open Go.RowKit

def frV (to fr : Mac) (k : Int) (s : Value) : Value := .agg #[.int .u8 to.a.toNat, .int .u8 to.b.toNat, .int .u8 to.c.toNat, .int .u8 to.d.toNat, .int .u8 to.e.toNat, .int .u8 to.f.toNat, .int .u8 fr.a.toNat, .int .u8 fr.b.toNat, .int .u8 fr.c.toNat, .int .u8 fr.d.toNat, .int .u8 fr.e.toNat, .int .u8 fr.f.toNat, .int .i64 k, s]
def encOk (to fr : Mac) (k : Int) (l : List UInt8) : List UInt8 := to.l ++ fr.l ++ beB k.toNat 2 ++ l ++ List.replicate (46 - l.length) 0
theorem encOk_len (to fr : Mac) (k : Int) (l : List UInt8) : (encOk to fr k l).length = 14 + l.length + (46 - l.length) := by
  simp [encOk, Mac.l, beB_len]; omega
theorem mac_in (m : Mac) (cs : Array Value) (o : Nat) (h0 : cs[o]? = some (.int .u8 m.a.toNat)) (h1 : cs[o + 1]? = some (.int .u8 m.b.toNat)) (h2 : cs[o + 2]? = some (.int .u8 m.c.toNat)) (h3 : cs[o + 3]? = some (.int .u8 m.d.toNat)) (h4 : cs[o + 4]? = some (.int .u8 m.e.toNat)) (h5 : cs[o + 5]? = some (.int .u8 m.f.toNat)) :
    ∀ i, (hi : i < m.l.length) → cs[o + i]? = some (.int .u8 m.l[i].toNat) := by
  intro i hi
  match i, hi with
  | 0, _ => exact h0
  | 1, _ => exact h1
  | 2, _ => exact h2
  | 3, _ => exact h3
  | 4, _ => exact h4
  | 5, _ => exact h5
  | i + 6, h => exact absurd h (by simp [Mac.l])

set_option maxHeartbeats 400000 in
theorem encode_arg (to fr : Mac) (k : Int) (A : Option Addr) (l : List UInt8) (c : Nat) (w : World) (hb : Bytes w A l) (hk : k < 1536 ∨ 65535 < k) :
    Calls Try.prog 19 #[frV to fr k (.slice A l.length c)] w fun e w' => e = .returned (.tuple #[.slice none 0 0, .int .i64 1]) ∧ Below w.heap.size w w' := by
  unfold frV
  rcases hk with hk | hk
  all_goals
    go_enter Try.func19, Try.ntmps19
    go_wp2
    go_ret2
    exact ⟨rfl, al (rf w) _⟩
set_option maxHeartbeats 400000 in
theorem encode_long (to fr : Mac) (k : Int) (A : Option Addr) (l : List UInt8) (c : Nat) (w : World) (hb : Bytes w A l) (hk : ¬ (k < 1536 ∨ 65535 < k)) (hl : 1500 < l.length) :
    Calls Try.prog 19 #[frV to fr k (.slice A l.length c)] w fun e w' => e = .returned (.tuple #[.slice none 0 0, .int .i64 5]) ∧ Below w.heap.size w w' := by
  unfold frV
  have k1 : ¬ k < 1536 := by omega
  have k2 : ¬ 65535 < k := by omega
  have k3 : (1500 : Int) < l.length := by omega
  go_enter Try.func19, Try.ntmps19
  go_wp2
  go_ret2
  exact ⟨rfl, al (rf w) _⟩
set_option maxHeartbeats 800000 in
theorem encode_ok (to fr : Mac) (k : Int) (A : Option Addr) (l : List UInt8) (c : Nat) (w : World) (hb : Bytes w A l) (hk : ¬ (k < 1536 ∨ 65535 < k)) (hl : l.length ≤ 1500) :
    Calls Try.prog 19 #[frV to fr k (.slice A l.length c)] w fun e w' => ∃ v, e = .returned (.tuple #[v, .int .i64 0]) ∧ IsRow w w' (encOk to fr k l) v := by
  unfold frV
  have k1 : ¬ k < 1536 := by omega
  have k2 : ¬ 65535 < k := by omega
  have k3 : (l.length : Int) ≤ 1500 := by omega
  go_enter Try.func19, Try.ntmps19
  go_wp2_with fail
  have B0 := Blk.new w 41 #[.int .u8 to.a.toNat, .int .u8 to.b.toNat, .int .u8 to.c.toNat, .int .u8 to.d.toNat, .int .u8 to.e.toNat, .int .u8 to.f.toNat, .int .u8 fr.a.toNat, .int .u8 fr.b.toNat, .int .u8 fr.c.toNat, .int .u8 fr.d.toNat, .int .u8 fr.e.toNat, .int .u8 fr.f.toNat, .int .i64 k, .slice A l.length c]
  refine (wraw _ (B := w.heap.size + 1) (w.heap.size + 1) [] to.l _ _ _ (IsW.new _ (by simp) (Nat.le_refl _)) ((blk_bytes B0 0 to.l (mac_in _ _ _ rfl rfl rfl rfl rfl rfl)).al _) rfl (by simp [Mac.l]) (by simp)).mono ?_
  rintro e w1 ⟨rfl, hw1, hl1⟩
  have B1 := (B0.alloc (.cells #[.slice none 0 0] 67)).below hl1 (by omega)
  have z1 := hl1.size
  simp at z1
  go_wp2_with fail
  refine (wraw _ _ _ fr.l _ _ _ hw1 (blk_bytes B1 6 fr.l (mac_in _ _ _ rfl rfl rfl rfl rfl rfl)) rfl (by simp [Mac.l]) (by omega)).mono ?_
  rintro e w2 ⟨rfl, hw2, hl2⟩
  have B2 := B1.below hl2 (by omega)
  have z2 := hl2.size
  have c12 := B2.cell 12
  have c13 := B2.cell 13
  simp only [List.getElem?_toArray, List.getElem?_cons_succ, List.getElem?_cons_zero] at c12 c13
  go_wp2_with fail
  refine (wtwo _ _ _ k hw2 (by omega) (by omega) (by simp [Mac.l]) (by omega)).mono ?_
  rintro e w3 ⟨rfl, hw3, hl3⟩
  have B3 := B2.below hl3 (by omega)
  have z3 := hl3.size
  have bel3 : Below w.heap.size w w3 := ((((al (al (rf w) _) _).trans (hl1.mono (by omega))).trans (hl2.mono (by omega)))).trans (hl3.mono (by omega))
  have c13 := B3.cell 13
  simp only [List.getElem?_toArray, List.getElem?_cons_succ, List.getElem?_cons_zero] at c13
  go_wp2_with fail
  refine (wraw _ _ _ l _ _ _ hw3 (hb.nx bel3) rfl (by simp [Mac.l, beB_len]; omega) (by omega)).mono ?_
  rintro e w4 ⟨rfl, hw4, hl4⟩
  have B4 := B3.below hl4 (by omega)
  have z4 := hl4.size
  have c13 := B4.cell 13
  simp only [List.getElem?_toArray, List.getElem?_cons_succ, List.getElem?_cons_zero] at c13
  have hmk := run_make_bytes (46 - l.length) (by omega) (max 0 (46 - (l.length : Int))) (by omega)
  go_wp2_with fail
  refine (wraw _ _ _ (List.replicate (46 - l.length) 0) _ _ _ (hw4.al _) (made_bytes (blk_at _ _ _ rfl)) (by simp) (by simp [Mac.l, beB_len]; omega) (by simp; omega)).mono ?_
  rintro e w5 ⟨rfl, hw5, hl5⟩
  go_wp2_with fail
  refine (wbytes _ _ _ hw5 (by simp [Mac.l, beB_len]; omega)).mono ?_
  rintro e w6 ⟨v, rfl, hr⟩
  obtain ⟨A6, n6, c6, rfl, _⟩ := hr.slice
  go_wp2
  go_ret2
  have bel5 : Below w.heap.size w w5 := (bel3.trans (hl4.mono (by omega))).trans (((Below.refl _ _).alloc (by omega) _).trans (hl5.mono (by omega)))
  refine ⟨_, rfl, ?_⟩
  have he : [] ++ to.l ++ fr.l ++ beB k.toNat 2 ++ l ++ List.replicate (46 - l.length) 0 = encOk to fr k l := rfl
  rw [he] at hr
  exact ⟨own_base hr.1 bel5.size, nx bel5 hr.2⟩
end Go.Proofs.Ytbfaonojemkhdaa
