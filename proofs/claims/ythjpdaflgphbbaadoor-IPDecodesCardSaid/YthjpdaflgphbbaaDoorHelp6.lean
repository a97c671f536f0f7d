/-
  The laws' own helpers: two rows of bytes, a row with room behind it, and a row that is spoiled.
-/
import Derived.Test.YthjpdaflgphbbaaDoorOctW
set_option linter.unusedVariables false
namespace Go.Proofs.YthjpdaflgphbbaaDoor
open Go.RowKit

theorem list_same {l m : List UInt8} (h : l.length = m.length) (hk : ∀ j, (h1 : j < l.length) → (h2 : j < m.length) → l[j] = m[j]) : (l == m) = true := by
  rw [beq_iff_eq]
  exact List.ext_getElem h hk
set_option maxHeartbeats 400000 in
theorem same_ (w : World) (A B : Option Addr) (l m : List UInt8) (n1 n2 c d : Nat) (ha : Bytes w A l) (hb : Bytes w B m) (hl : n1 = l.length) (hm : n2 = m.length) (h1 : l.length ≤ 1099511627776) (h2 : m.length ≤ 1099511627776) :
    Calls Tryd.prog 15 #[.slice A n1 c, .slice B n2 d] w fun e w' => e = .returned (.bool (l == m)) ∧ Below w.heap.size w w' := by
  subst hl hm
  by_cases hlen : l.length = m.length
  · have hq : ((l.length : Int) != (m.length : Int)) = false := by rw [bne_eq_false_iff_eq]; omega
    have HL := Lib.hid hlen
    have hle1 : l.length ≤ m.length := by omega
    have hle2 : m.length ≤ l.length := by omega
    clear hlen
    go_enter Tryd.func15, Tryd.ntmps15
    go_wp2
    go_loopw [5] (fun i wr => ∃ k n : Nat, k ≤ l.length ∧ i = .int .i64 k ∧ wr = w.drewN n ∧ Hid (∀ j, (h1 : j < l.length) → (h2 : j < m.length) → j < k → l[j] = m[j])) (fun i _ => l.length - (intOf i).toNat)
    case atStart => exact ⟨0, 0, by omega, rfl, rfl, fun j _ _ h => absurd h (by omega)⟩
    case round =>
      obtain ⟨k, n, hk, rfl, rfl, HK⟩ := hrel
      by_cases hlt : k < l.length
      · obtain ⟨ad, rfl, _, hc1⟩ := ha.at_ hlt
        obtain ⟨bd, rfl, _, hc2⟩ := hb.at_ (show k < m.length by omega)
        have k0 : (0 : Int) ≤ k := by omega
        have k1 : (k : Int) < l.length := by omega
        have k2 : (k : Int) < m.length := by omega
        by_cases he : l[k] = m[k]'(by omega)
        · have hb1 : ((l[k].toNat : Int) != ((m[k]'(by omega)).toNat : Int)) = false := by rw [he]; simp
          have HE := Lib.hid he; clear he
          go_wp2_with fail
          go_quiet (fail)
          go_wp2
          go_roundw
          case rel => exact ⟨k + 1, _, by omega, by go_num, rfl, fun j h1 h2 hj => by
            by_cases hj' : j < k
            · exact HK.out j h1 h2 hj'
            · obtain rfl : j = k := by omega
              exact HE.out⟩
          case measure => simp [intOf]; omega
        · have hb1 : ((l[k].toNat : Int) != ((m[k]'(by omega)).toNat : Int)) = true := by
            rw [bne_iff_ne]; intro h; exact he (UInt8.toNat_inj.1 (Int.ofNat.inj h))
          have HE := Lib.hid he; clear he
          go_wp2_with fail
          go_quiet (fail)
          go_wp2
          go_ret
          exact ⟨ret_bool (by rw [eq_comm, beq_eq_false_iff_ne]; intro h; exact HE.out (by simp [h])), dn (dn (rf w) _) _⟩
      · go_wp2
        go_ret
        exact ⟨ret_bool (list_same HL.out (fun j h1 h2 => HK.out j h1 h2 (by omega))).symm, dn (rf w) _⟩
  · have hq : ((l.length : Int) != (m.length : Int)) = true := by rw [bne_iff_ne]; omega
    have HL := Lib.hid hlen
    clear hlen
    go_enter Tryd.func15, Tryd.ntmps15
    go_wp2
    go_ret
    exact ⟨ret_bool (by rw [eq_comm, beq_eq_false_iff_ne]; intro h; exact HL.out (by rw [h])), rf w⟩

-- a slice of bytes with its length in front, and what lies behind it
def Roomy (w : World) (g cap : Nat) (l : List UInt8) : Prop := l.length + 2 ≤ cap ∧ cap ≤ maxLen ∧ g < w.heap.size ∧ (∀ j, (h : j < l.length) → w.cell? ⟨g, j, none⟩ = some (.int .u8 l[j].toNat)) ∧ w.cell? ⟨g, l.length, none⟩ = some (.int .u8 171)
theorem Roomy.nx {w w' : World} {g cap : Nat} {l : List UInt8} (h : Roomy w g cap l) (k : Below w.heap.size w w') : Roomy w' g cap l :=
  ⟨h.1, h.2.1, Nat.lt_of_lt_of_le h.2.2.1 k.size, fun j hj => (k.cell (p := ⟨g, j, none⟩) h.2.2.1).trans (h.2.2.2.1 j hj), (k.cell (p := ⟨g, l.length, none⟩) h.2.2.1).trans h.2.2.2.2⟩
theorem Roomy.below {w w' : World} {g cap B : Nat} {l : List UInt8} (h : Roomy w g cap l) (k : Below B w w') (hg : g < B) : Roomy w' g cap l :=
  ⟨h.1, h.2.1, Nat.lt_of_lt_of_le h.2.2.1 k.size, fun j hj => (k.cell (p := ⟨g, j, none⟩) hg).trans (h.2.2.2.1 j hj), (k.cell (p := ⟨g, l.length, none⟩) hg).trans h.2.2.2.2⟩
theorem Roomy.bytes {w : World} {g cap : Nat} {l : List UInt8} (h : Roomy w g cap l) : Bytes w (some ⟨g, 0, none⟩) l :=
  ⟨by simp [Lib.byteCells], fun _ => ⟨_, rfl, h.2.2.1, fun j u hu => by
    by_cases hj : j < l.length
    · rw [byteCells_at l j hj] at hu
      rw [Addr.add_mid, Nat.zero_add, h.2.2.2.1 j hj]; exact hu
    · rw [List.getElem?_eq_none (by rw [byteCells_len]; omega)] at hu; cases hu⟩⟩
set_option maxHeartbeats 400000 in
theorem roomy (w : World) (A : Option Addr) (l : List UInt8) (n c : Nat) (ha : Bytes w A l) (hn : n = l.length) (hl : l.length ≤ 1099511627776) :
    Calls Tryd.prog 12 #[.slice A n c] w fun e w' => ∃ g cap, e = .returned (.slice (some ⟨g, 0, none⟩) (l.length + 1) cap) ∧ w.heap.size ≤ g ∧ Roomy w' g cap l ∧ Below w.heap.size w w' := by
  subst hn
  go_enter Tryd.func12, Tryd.ntmps12
  go_wp2_with (first
    | (at_builtin
       refine app_any stB rfl (.tmp 3) (.tmp 4) rfl w.heap.size _ 0 [] rfl (own_lit _ #[] 0 ?b1 (by omega) (by decide) rfl) A l.length c (Lib.byteCells l) rfl (ha.nx (al (rf w) _)) (one_u8 l) (by omega) (by omega) ?b2 ?_
       case b1 => simp
       case b2 => simp
       intro v1 w1 own1 gr1 at1 bel1)
    | (at_builtin
       refine app_any stB rfl (.tmp 5) (.tmp 6) rfl w.heap.size v1 _ _ rfl (own1.alloc _) _ 1 _ [.int .u8 171] rfl (Reads.one (blk_at _ _ _ ?b4)) (by simp [Value.oneCell']) (by omega) (by omega) ?b3 ?_
       case b4 => simp
       case b3 => have := bel1.size; simp at this ⊢; omega
       intro v2 w2 own2 gr2 at2 bel2)
    | (at_builtin
       refine app_any stB rfl (.tmp 7) (.tmp 8) rfl w.heap.size v2 _ _ rfl (own2.alloc _) _ 1 _ [.int .u8 171] rfl (Reads.one (blk_at _ _ _ ?b6)) (by simp [Value.oneCell']) (by omega) (by omega) ?b5 ?_
       case b6 => simp
       case b5 => have := bel1.size; have := bel2.size; simp at *; omega
       intro v3 w3 own3 gr3 at3 bel3
       obtain ⟨g, cap, rfl, hg, hg2, hcap, hcm, cur, BG, hcs, hct⟩ := own_form own3 (by omega)
       have i1 : (l.length : Int) + 1 ≤ cap := by omega
       have i2 : l.length + 1 ≤ cap := by omega))
  go_ret
  refine ⟨g, cap, rfl, hg, ⟨by omega, hcm, hg2, fun j hj => ?_, ?_⟩, ((al (rf w) _).trans bel1).trans (((Below.refl _ _).alloc (by have := bel1.size; simp at this; omega) _).trans (bel2.trans (((Below.refl _ _).alloc (by have := bel1.size; have := bel2.size; simp at *; omega) _).trans bel3)))⟩
  · rw [take_cell BG hct (by omega), List.nil_append, List.append_assoc, List.getElem?_append_left (by rw [byteCells_len]; omega), byteCells_at l j hj]
  · rw [take_cell BG hct (by omega), List.nil_append, List.append_assoc, List.getElem?_append_right (by rw [byteCells_len]; omega), byteCells_len]; simp
set_option maxHeartbeats 400000 in
theorem stands (w : World) (B : Option Addr) (l : List UInt8) (n g cap c : Nat) (hr : Roomy w g cap l) (hb : Bytes w B l) (hn : n = l.length) (hl : l.length ≤ 1099511627776) :
    Calls Tryd.prog 16 #[.slice (some ⟨g, 0, none⟩) (l.length + 1) cap, .slice B n c] w fun e w' => e = .returned (.bool true) ∧ Below w.heap.size w w' := by
  subst hn
  have i1 : (l.length : Int) ≤ cap := by have := hr.1; omega
  have i2 : l.length ≤ cap := by have := hr.1; omega
  have i3 : (l.length : Int) < (l.length : Int) + 1 := by omega
  have hc := hr.2.2.2.2
  go_enter Tryd.func16, Tryd.ntmps16
  go_wp2_with fail
  refine (same_ _ _ _ l l _ _ _ _ hr.bytes hb rfl rfl hl hl).mono ?_
  rintro e w1 ⟨rfl, hb1⟩
  rw [show (l == l) = true by simp]
  have hc := (hr.nx hb1).2.2.2.2
  go_wp2
  go_ret
  exact ⟨rfl, hb1⟩
set_option maxHeartbeats 400000 in
theorem spoil (w : World) {base : Nat} (A : Option Addr) (n c : Nat) (xs : List Value) (h : w.ownsRow base 5 1 (.slice A n c) n xs) (hn : n ≤ 1099511627776) (hb : base ≤ w.heap.size) :
    Calls Tryd.prog 25 #[.slice A n c] w fun e w' => e = .returned (.tuple #[]) ∧ Below base w w' := by
  go_enter Tryd.func25, Tryd.ntmps25
  go_wp2_with (at_builtin
               refine app_any stB rfl (.tmp 4) (.tmp 5) rfl base _ _ _ rfl (h.alloc _) _ 1 _ [.int .u8 99] rfl (Reads.one (blk_at _ _ _ ?b4)) (by simp [Value.oneCell']) (by omega) (by omega) ?b3 ?_
               case b4 => simp
               case b3 => simp; omega
               intro v1 w1 own1 gr1 at1 bel1
               obtain ⟨g, cap, rfl, hg, hg2, hcap, hcm, cur, BG, hcs, hct⟩ := own_form own1 (by omega))
  have bel : Below base w w1 := ((Below.refl _ _).alloc hb _).trans bel1
  clear own1 gr1 at1 bel1 hct
  go_loopw [3] (fun i wr => ∃ (k : Nat) (cur : Array Value), k ≤ n + 1 ∧ i = .int .i64 k ∧ Blk wr g 5 cur ∧ Hid (cur.size = cap) ∧ Below base w wr) (fun i _ => n + 1 - (intOf i).toNat)
  case atStart => exact ⟨0, cur, by omega, rfl, BG, hcs, bel⟩
  case round =>
    obtain ⟨k, cur', hk, rfl, BG', HC, hbl⟩ := hrel
    clear BG bel hcs
    by_cases hlt : k < n + 1
    · have hc := BG'.cell k
      rw [Array.getElem?_eq_getElem (by rw [HC.out]; omega)] at hc
      have hf := BG'.frozen k
      have k0 : (0 : Int) ≤ k := by omega
      have k1 : (k : Int) < (n : Int) + 1 := by omega
      go_wp2
      go_roundw
      case rel => exact ⟨k + 1, _, by omega, by go_num, BG'.set_ k _, by rw [Array.size_setIfInBounds]; exact HC, hbl.setCell hg _⟩
      case measure => simp [intOf]; omega
    · go_wp2
      go_end0
      exact ⟨rfl, hbl⟩
end Go.Proofs.YthjpdaflgphbbaaDoor
