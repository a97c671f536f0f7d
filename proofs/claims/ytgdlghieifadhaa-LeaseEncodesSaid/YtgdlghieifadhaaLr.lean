/-
  The reference's client of a lease: where it lies, and its small methods.
-/
import Derived.Test.YtgdlghieifadhaaLs3
set_option linter.unusedVariables false
namespace Go.Proofs.Ytgdlghieifadhaa
open Go.RowKit

def rfCs (mac : M6) (s : St) : List Value :=
  [.int .u8 mac.a, .int .u8 mac.b, .int .u8 mac.c, .int .u8 mac.d, .int .u8 mac.e, .int .u8 mac.f, .int .i64 s.st, .int .u32 s.id, .int .i64 s.next, .int .i64 s.tried] ++ s.offer.cs ++ s.lease.cs ++ [.int .i64 s.fr]
theorem rfCs_len (mac : M6) (s : St) : (rfCs mac s).length = 43 := rfl
abbrev IsRf (w : World) (b : Nat) (mac : M6) (s : St) : Prop := Blk w b 46 (rfCs mac s).toArray
theorem IsRf.nx {w w' : World} {b : Nat} {mac : M6} {s : St} (h : IsRf w b mac s) (k : Below w.heap.size w w') : IsRf w' b mac s := Blk.nx h k
theorem IsRf.set {w : World} {b : Nat} {mac : M6} {s : St} (h : IsRf w b mac s) (k : Nat) (v : Value) (s' : St) (e : (rfCs mac s).set k v = rfCs mac s') : IsRf (w.setCell ⟨b, k, none⟩ v) b mac s' := by
  have := Blk.set_ h k v
  rwa [List.setIfInBounds_toArray, e] at this
theorem IsRf.lay {w' : World} {b : Nat} {mac : M6} {s : St} {k : Nat} {vs : List Value} (s' : St) (h : Blk w' b 46 (splice (rfCs mac s) k vs).toArray) (e : splice (rfCs mac s) k vs = rfCs mac s') : IsRf w' b mac s' := by
  rw [e] at h; exact h
-- a call that goes over to another state, and hands a message back, or none
def DoesR (w w' : World) (b : Nat) (mac : M6) (s' : St) (o : Option Ls) (e : Ending) : Prop := ∃ v, e = .returned v ∧ Out w' w.heap.size v o ∧ IsRf w' b mac s' ∧ w.grownBy w' (some b)
def beginF (s : St) (now draw : Int) : St := { beginS s now draw with offer := s.offer }
theorem later (a b : Int) (w : World) (h0 : 0 ≤ a) (h1 : a ≤ 2305843009213693952) (h2 : 0 ≤ b) (h3 : b ≤ 2305843009213693952) :
    Calls Try.prog 40 #[.int .i64 a, .int .i64 b] w fun e w' => e = .returned (.int .i64 (a + b)) ∧ w' = w := by
  have i1 : ¬ a + b < a := by omega
  have i2 : ¬ b < 0 := by omega
  by_cases hb : 0 < b
  all_goals
    go_enter Try.func40, Try.ntmps40
    go_wp2
    go_ret
    exact ⟨rfl, rfl⟩
theorem sendsF (b : Nat) (mac : M6) (s : St) (k a sv : Int) (w : World) (h : IsRf w b mac s) :
    Calls Try.prog 41 #[.pointer (some ⟨b, 0, none⟩), .int .i64 k, .int .u32 a, .int .u32 sv] w fun e w' => ∃ v, e = .returned v ∧ Msg w' w.heap.size v (says mac s.id k a sv) ∧ Below w.heap.size w w' := by
  have c0 : w.cell? ⟨b, 0, none⟩ = some (.int .u8 mac.a) := h.cell 0
  have c1 : w.cell? ⟨b, 1, none⟩ = some (.int .u8 mac.b) := h.cell 1
  have c2 : w.cell? ⟨b, 2, none⟩ = some (.int .u8 mac.c) := h.cell 2
  have c3 : w.cell? ⟨b, 3, none⟩ = some (.int .u8 mac.d) := h.cell 3
  have c4 : w.cell? ⟨b, 4, none⟩ = some (.int .u8 mac.e) := h.cell 4
  have c5 : w.cell? ⟨b, 5, none⟩ = some (.int .u8 mac.f) := h.cell 5
  have c7 : w.cell? ⟨b, 7, none⟩ = some (.int .u32 s.id) := h.cell 7
  go_enter Try.func41, Try.ntmps41
  go_wp2
  go_region_held3 (fun w' => w'.cell? ⟨b, 0, none⟩ = some (.int .u8 mac.a) ∧ w'.cell? ⟨b, 1, none⟩ = some (.int .u8 mac.b) ∧ w'.cell? ⟨b, 2, none⟩ = some (.int .u8 mac.c) ∧ w'.cell? ⟨b, 3, none⟩ = some (.int .u8 mac.d) ∧ w'.cell? ⟨b, 4, none⟩ = some (.int .u8 mac.e) ∧ w'.cell? ⟨b, 5, none⟩ = some (.int .u8 mac.f) ∧ w'.cell? ⟨b, 7, none⟩ = some (.int .u32 s.id)) (go_keep) (fail)
  go_wp2
  go_ret
  exact ⟨_, rfl, ⟨_, rfl, Nat.le_refl _, blk_at _ _ _ rfl⟩, (rf w).drew.alloc (Nat.le_refl _) _⟩
set_option maxHeartbeats 400000 in
theorem beginF_ (b : Nat) (mac : M6) (s : St) (now draw : Int) (w : World) (h : IsRf w b mac s) (h0 : 0 ≤ now) (h1 : now ≤ 1152921504606846976) :
    Calls Try.prog 39 #[.pointer (some ⟨b, 0, none⟩), .int .i64 now, .int .i64 draw] w fun e w' => DoesR w w' b mac (beginF s now draw) (some (says mac (draw % 4294967296) 1 0 0)) e := by
  have c6 : w.cell? ⟨b, 6, none⟩ = some (.int .i64 s.st) := h.cell 6
  have f6 := Blk.frozen h 6
  have H1 := Lib.hid (h.set 6 (.int .i64 1) { s with st := 1 } rfl)
  go_enter Try.func39, Try.ntmps39
  go_wp2_with ((with_reducible refine wpList_store_blk rfl 27 13 11 rfl b 26 zeroL.cs (by kernel_rfl) (by kernel_rfl) 46 _ H1.out (by rw [rfCs_len]; decide) (by kernel_rfl) zeroL.one ?_); intro w2 hB2 g2; have H2 := Lib.hid (IsRf.lay { s with st := 1, lease := zeroL } hB2 rfl); clear hB2; have d7 : w2.cell? ⟨b, 7, none⟩ = some (.int .u32 s.id) := H2.out.cell 7; have d8 : w2.cell? ⟨b, 8, none⟩ = some (.int .i64 s.next) := H2.out.cell 8; have d9 : w2.cell? ⟨b, 9, none⟩ = some (.int .i64 s.tried) := H2.out.cell 9; have e7 := Blk.frozen H2.out 7; have e8 := Blk.frozen H2.out 8; have e9 := Blk.frozen H2.out 9)
  refine (later now 40 _ h0 (by omega) (by omega) (by omega)).mono ?_
  rintro e w3 ⟨rfl, rfl⟩
  have H3 := Lib.hid (((H2.out.set 7 (.int .u32 (draw % 4294967296)) { s with st := 1, lease := zeroL, id := draw % 4294967296 } rfl).set 9 (.int .i64 1) { s with st := 1, lease := zeroL, id := draw % 4294967296, tried := 1 } rfl).set 8 (.int .i64 (now + 40)) (beginF s now draw) rfl)
  go_wp2_with fail
  refine (sendsF b mac _ _ _ _ _ H3.out).mono ?_
  rintro e w4 ⟨v, rfl, hm, hb⟩
  go_wp2
  go_ret
  have g1 : w.grownBy (((w2.setCell ⟨b, 7, none⟩ (.int .u32 (draw % 4294967296))).setCell ⟨b, 9, none⟩ (.int .i64 1)).setCell ⟨b, 8, none⟩ (.int .i64 (now + 40))) (some b) :=
    only_setCell (p := ⟨b, 8, none⟩) (only_setCell (p := ⟨b, 9, none⟩) (only_setCell (p := ⟨b, 7, none⟩) (only_trans (only_setCell (p := ⟨b, 6, none⟩) (World.grownBy.refl _ _) (.inl rfl) _) g2) (.inl rfl) _) (.inl rfl) _) (.inl rfl) _
  exact ⟨v, rfl, hm.more g1.size, H3.out.nx hb, only_nx g1 hb⟩
end Go.Proofs.Ytgdlghieifadhaa
