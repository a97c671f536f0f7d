/-
  The reference's Encode of a frame, by the plain rule.
-/
import Derived.Test.YtbfaonojemkhdaaEnc
import Derived.Test.YtbfaonojemkhdaaOctR1
set_option linter.unusedVariables false
namespace Go.Proofs.Ytbfaonojemkhdaa
open Go.RowKit

set_option maxHeartbeats 400000 in
theorem rencode_arg (to fr : Mac) (k : Int) (A : Option Addr) (l : List UInt8) (c : Nat) (w : World) (hb : Bytes w A l) (hk : k < 1536 ∨ 65535 < k) :
    Calls Try.prog 20 #[frV to fr k (.slice A l.length c)] w fun e w' => e = .returned (.tuple #[.slice none 0 0, .int .i64 1]) ∧ Below w.heap.size w w' := by
  unfold frV
  rcases hk with hk | hk
  all_goals
    go_enter Try.func20, Try.ntmps20
    go_wp2
    go_ret2
    exact ⟨rfl, al (rf w) _⟩
set_option maxHeartbeats 400000 in
theorem rencode_long (to fr : Mac) (k : Int) (A : Option Addr) (l : List UInt8) (c : Nat) (w : World) (hb : Bytes w A l) (hk : ¬ (k < 1536 ∨ 65535 < k)) (hl : 1500 < l.length) :
    Calls Try.prog 20 #[frV to fr k (.slice A l.length c)] w fun e w' => e = .returned (.tuple #[.slice none 0 0, .int .i64 5]) ∧ Below w.heap.size w w' := by
  unfold frV
  have k1 : ¬ k < 1536 := by omega
  have k2 : ¬ 65535 < k := by omega
  have k3 : (1500 : Int) < l.length := by omega
  go_enter Try.func20, Try.ntmps20
  go_wp2
  go_ret2
  exact ⟨rfl, al (rf w) _⟩
def lenV : Value → Nat
  | .slice _ n _ => n
  | _ => 0
set_option maxHeartbeats 800000 in
theorem rencode_ok (to fr : Mac) (k : Int) (A : Option Addr) (l : List UInt8) (c : Nat) (w : World) (hb : Bytes w A l) (hk : ¬ (k < 1536 ∨ 65535 < k)) (hl : l.length ≤ 1500) :
    Calls Try.prog 20 #[frV to fr k (.slice A l.length c)] w fun e w' => ∃ v, e = .returned (.tuple #[v, .int .i64 0]) ∧ IsRow w w' (encOk to fr k l) v := by
  unfold frV
  have k1 : ¬ k < 1536 := by omega
  have k2 : ¬ 65535 < k := by omega
  have k3 : (l.length : Int) ≤ 1500 := by omega
  have k4 : decide ((1500 : Int) < (l.length : Int)) = false := by simp; omega
  have B0 := Blk.new w 41 #[.int .u8 to.a.toNat, .int .u8 to.b.toNat, .int .u8 to.c.toNat, .int .u8 to.d.toNat, .int .u8 to.e.toNat, .int .u8 to.f.toNat, .int .u8 fr.a.toNat, .int .u8 fr.b.toNat, .int .u8 fr.c.toNat, .int .u8 fr.d.toNat, .int .u8 fr.e.toNat, .int .u8 fr.f.toNat, .int .i64 k, .slice A l.length c]
  go_enter Try.func20, Try.ntmps20
  go_wp2
  go_region_held3 (fun w' => True) (exact trivial)
    (first
    | (refine step_app stB rfl (.tmp 17) (.tmp 19) rfl (w.heap.size + 1) _ 0 [] rfl (own_lit _ #[] 0 ?b1 (by omega) (by decide) rfl) _ 6 _ (Lib.byteCells to.l) rfl ((blk_bytes B0 0 to.l (mac_in _ _ _ rfl rfl rfl rfl rfl rfl)).al _) (one_u8 _) (by omega) (by omega) ?b2 ?_
       case b1 => simp
       case b2 => simp
       intro v1 w1 own1 gr1 at1 bel1)
    | (refine step_app stB rfl (.tmp 20) (.tmp 22) rfl (w.heap.size + 1) v1 _ _ rfl own1 _ 6 _ (Lib.byteCells fr.l) rfl (blk_bytes (((B0.drew).alloc _).below bel1 (by omega)) 6 fr.l (mac_in _ _ _ rfl rfl rfl rfl rfl rfl)) (one_u8 _) (by omega) (by omega) ?b3 ?_
       case b3 => have := bel1.size; simp at this ⊢; omega
       intro v2 w2 own2 gr2 at2 bel2))
  have B2 := (((B0.drew).alloc _).below bel1 (by omega)).below bel2 (by omega)
  have z2 : w.heap.size + 1 + 1 ≤ w2.heap.size := by have := bel1.size; have := bel2.size; simp at *; omega
  have bw2 : Below w.heap.size w w2 := (((al (rf w) _).drew.alloc (by simp) _).trans (bel1.mono (by omega))).trans (bel2.mono (by omega))
  have hb2 := hb.nx bw2
  clear at1 gr1 at2 gr2 bel1 bel2 own1 B0
  have KK : ∀ w', Below (w.heap.size + 1) w2 w' → (w'.cell? ⟨w.heap.size, 12, none⟩ = some (.int .i64 k) ∧ w'.cell? ⟨w.heap.size, 13, none⟩ = some (.slice A l.length c)) ∧ Below (w.heap.size + 1) w2 w' := fun w' h => ⟨⟨(B2.below h (by omega)).cell 12, (B2.below h (by omega)).cell 13⟩, h⟩
  have K := Lib.hid KK; clear KK
  go_wp2
  go_region_held3 (fun w' => (w'.cell? ⟨w.heap.size, 12, none⟩ = some (.int .i64 k) ∧ w'.cell? ⟨w.heap.size, 13, none⟩ = some (.slice A l.length c)) ∧ Below (w.heap.size + 1) w2 w')
    (first | (refine K.out _ ?_; first | exact (Below.refl _ _).drew | (apply And.right <;> assumption) | (refine keepA (by assumption) ?_ _; omega) | (apply keepT <;> assumption)))
    (first
    | (go_at_call 34; refine (rtwo _ k (by omega) (by omega)).mono ?_; rintro e w' ⟨rfl, rfl⟩)
    | (refine step_app stB rfl (.tmp 24) (.tmp 27) rfl (w.heap.size + 1) v2 _ _ rfl (own2.alloc _) _ 2 _ _ rfl (Reads.blk (blk_at _ _ _ ?b4) rfl rfl) (by simp [Value.oneCell']) (by omega) (by omega) ?b5 ?_
       case b4 => simp
       case b5 => simp; omega
       intro v3 w3 own3 gr3 at3 bel3)
    | (refine step_app stB rfl (.tmp 28) (.tmp 30) rfl (w.heap.size + 1) v3 _ _ rfl own3 A l.length c (Lib.byteCells l) rfl ?b6 (one_u8 _) (by omega) (by omega) ?b7 ?_
       case b6 => exact hb.nx ((bw2.alloc bw2.size _).drew.trans (bel3.mono (by omega)))
       case b7 => have := bel3.size; simp at this; omega
       intro v4 w4 own4 gr4 at4 bel4))
  have bw4 : Below w.heap.size w w4 := ((bw2.alloc bw2.size _).drew.trans (bel3.mono (by omega))).trans (bel4.mono (by omega))
  have z4 : w.heap.size + 1 ≤ w4.heap.size := by have := bel3.size; have := bel4.size; simp at *; omega
  have hpre : [] ++ Lib.byteCells to.l ++ Lib.byteCells fr.l ++ #[Value.int .u8 (k / 256), Value.int .u8 (k % 256)].toList ++ Lib.byteCells l = Lib.byteCells (to.l ++ fr.l ++ beB k.toNat 2 ++ l ++ List.replicate 0 0) := by
    rw [byteCells_app, byteCells_app, byteCells_app, byteCells_app, beB_two k (by omega) (by omega)]; simp [Lib.byteCells]
  rw [hpre] at own4
  clear hpre own2 own3 gr3 at3 bel3 gr4 at4 bel4 B2 K
  obtain ⟨A4, c4, rfl⟩ := own_slice own4
  go_wp2
  go_loopw [4] (fun v wr => ∃ (m n : Nat) (A : Option Addr) (c : Nat), v = .slice A n c ∧ n + 0 = 14 + l.length + m ∧ (m ≤ 46 - l.length) ∧ wr.ownsRow (w.heap.size + 1) 5 1 (.slice A n c) n (Lib.byteCells (to.l ++ fr.l ++ beB k.toNat 2 ++ l ++ List.replicate m 0)) ∧ Below w.heap.size w wr ∧ w.heap.size + 1 ≤ wr.heap.size) (fun v _ => 60 - lenV v)
  case atStart => exact ⟨0, _, A4, c4, rfl, by omega, by omega, own4, bw4, z4⟩
  case round =>
    obtain ⟨m, n, A', c', rfl, hn, hm, hown, hbl, hz⟩ := hrel
    have HN := Lib.hid hn
    have n1 : n ≤ 1560 := by omega
    have n2 : 60 ≤ n → m = 46 - l.length := by omega
    have N2 := Lib.hid n2
    clear hn n2 own4
    by_cases hlt : n < 60
    · have n3 : m < 46 - l.length := by have := HN.out; omega
      go_wp2_with (at_builtin; refine app_any stB rfl (.tmp 35) (.tmp 36) rfl (w.heap.size + 1) _ _ _ rfl (hown.alloc _) _ 1 _ [.int .u8 0] rfl (Reads.one (blk_at _ _ _ ?b8)) (by simp [Value.oneCell']) (by omega) (by omega) ?b9 ?_; (case b8 => simp); (case b9 => simp; omega); intro v5 w5 own5 gr5 at5 bel5; obtain ⟨A5, c5, rfl⟩ := own_slice own5)
      go_roundw
      case rel => (repeat apply Exists.intro); refine ⟨?_, rfl⟩; exact ⟨m + 1, n + 1, A5, c5, rfl, by have := HN.out; omega, by omega, by rw [List.replicate_succ', ← List.append_assoc, byteCells_app]; exact own5, (hbl.alloc hbl.size _).trans (bel5.mono (by omega)), by have := bel5.size; simp at this; omega⟩
      case measure => simp [lenV]; omega
    · have H60 := Lib.hid (Nat.le_of_not_lt hlt)
      go_wp2
      go_ret2
      have e1 := N2.out H60.out
      subst e1
      refine ⟨_, rfl, own_base (b' := w.heap.size) (base := w.heap.size + 1) ?_ (by omega), hbl⟩
      show wr.ownsRow _ _ _ _ (encOk to fr k l).length _
      rw [encOk_len, show 14 + l.length + (46 - l.length) = n by have := HN.out; omega]
      exact hown
end Go.Proofs.Ytbfaonojemkhdaa
