/-
  A lease's client: what its methods do, by the plain rules.
-/
import Derived.Test.YtgdlghieifadhaaLs
set_option linter.unusedVariables false
namespace Go.Proofs.Ytgdlghieifadhaa
open Go.RowKit

theorem IsC.set {w : World} {b : Nat} {mac : M6} {s : St} (h : IsC w b mac s) (k : Nat) (v : Value) (s' : St) (e : (clCs b mac s).set k v = clCs b mac s') : IsC (w.setCell ⟨b, k, none⟩ v) b mac s' := by
  have := Blk.set_ h k v
  rwa [List.setIfInBounds_toArray, e] at this
theorem IsC.lay {w' : World} {b : Nat} {mac : M6} {s : St} {k : Nat} {vs : List Value} (s' : St) (h : Blk w' b 63 (splice (clCs b mac s) k vs).toArray) (e : splice (clCs b mac s) k vs = clCs b mac s') : IsC w' b mac s' := by
  rw [e] at h; exact h
theorem sameC (b : Nat) (mac : M6) (s : St) (w : World) (h : IsC w b mac s) :
    Calls Try.prog 34 #[.pointer (some ⟨b, 0, none⟩)] w fun e w' => ∃ v, e = .returned v ∧ Msg w' w.heap.size v (sameM mac s) ∧ Below w.heap.size w w' := by
  have c6 : w.cell? ⟨b, 6, none⟩ = some (.int .i64 s.st) := h.cell 6
  have c12 : w.cell? ⟨b, 12, none⟩ = some (.int .u32 s.offer.yours) := h.cell 12
  have c20 : w.cell? ⟨b, 20, none⟩ = some (.int .u32 s.offer.server) := h.cell 20
  have c28 : w.cell? ⟨b, 28, none⟩ = some (.int .u32 s.lease.yours) := h.cell 28
  have KK : ∀ w', Below w.heap.size w w' → w'.cell? ⟨b, 12, none⟩ = some (.int .u32 s.offer.yours) ∧ w'.cell? ⟨b, 20, none⟩ = some (.int .u32 s.offer.server) := fun w' k => ⟨(k.cell (p := ⟨b, 12, none⟩) (Blk.lt h)).trans c12, (k.cell (p := ⟨b, 20, none⟩) (Blk.lt h)).trans c20⟩
  have K := Lib.hid KK; clear KK
  unfold sameM
  by_cases h1 : s.st = 1
  · rw [if_pos h1]
    have q1 : ((s.st : Int) == 1) = true := by rw [beq_iff_eq]; exact h1
    clear h1
    go_enter Try.func34, Try.ntmps34
    go_wp2_with fail
    refine (saysC b mac s _ _ _ _ h).mono ?_
    rintro e w1 ⟨v, rfl, hm, hb⟩
    go_wp2
    go_ret
    exact ⟨v, rfl, hm, hb⟩
  · rw [if_neg h1]
    have q1 : ((s.st : Int) == 1) = false := by rw [beq_eq_false_iff_ne]; exact h1
    clear h1
    by_cases h2 : s.st = 2
    · rw [if_pos h2]
      have q2 : ((s.st : Int) == 2) = true := by rw [beq_iff_eq]; exact h2
      clear h2
      go_enter Try.func34, Try.ntmps34
      go_wp2
      go_region_held3 (fun w' => w'.cell? ⟨b, 12, none⟩ = some (.int .u32 s.offer.yours) ∧ w'.cell? ⟨b, 20, none⟩ = some (.int .u32 s.offer.server)) (first | go_keep | exact K.out _ (nx (rf w).drew (by assumption)))
        (first | (go_at_call 38; refine (saysC b mac s _ _ _ _ (by exact h)).mono ?_; rintro e w1 ⟨v, rfl, hm, hb⟩))
      go_wp2
      go_ret
      exact ⟨v, rfl, hm, nx (rf w).drew hb⟩
    · rw [if_neg h2]
      have q2 : ((s.st : Int) == 2) = false := by rw [beq_eq_false_iff_ne]; exact h2
      clear h2
      go_enter Try.func34, Try.ntmps34
      go_wp2_with fail
      refine (saysC b mac s _ _ _ _ h).mono ?_
      rintro e w1 ⟨v, rfl, hm, hb⟩
      go_wp2
      go_ret
      exact ⟨v, rfl, hm, hb⟩
theorem clCs_len (b : Nat) (mac : M6) (s : St) : (clCs b mac s).length = 49 := rfl
-- a call that goes over to another state, and hands a message back, or none
def Does (w w' : World) (b : Nat) (mac : M6) (s' : St) (o : Option Ls) (e : Ending) : Prop := ∃ v, e = .returned v ∧ Out w' w.heap.size v o ∧ IsC w' b mac s' ∧ w.grownBy w' (some b)
set_option maxHeartbeats 400000 in
theorem beginsC (b : Nat) (mac : M6) (s : St) (now draw : Int) (w : World) (h : IsC w b mac s) (h0 : 0 ≤ now) (h1 : now ≤ 1152921504606846976) :
    Calls Try.prog 32 #[.pointer (some ⟨b, 0, none⟩), .int .i64 now, .int .i64 draw] w fun e w' => Does w w' b mac (beginS s now draw) (some (sameM mac (beginS s now draw))) e := by
  have c6 : w.cell? ⟨b, 6, none⟩ = some (.int .i64 s.st) := h.cell 6
  have c7 : w.cell? ⟨b, 7, none⟩ = some (.int .u32 s.id) := h.cell 7
  have c8 : w.cell? ⟨b, 8, none⟩ = some (.int .i64 s.next) := h.cell 8
  have c9 : w.cell? ⟨b, 9, none⟩ = some (.int .i64 s.tried) := h.cell 9
  have f6 := Blk.frozen h 6
  have f7 := Blk.frozen h 7
  have f8 := Blk.frozen h 8
  have f9 := Blk.frozen h 9
  have H1 : Hid (IsC ((((w.setCell ⟨b, 6, none⟩ (.int .i64 1)).setCell ⟨b, 7, none⟩ (.int .u32 (draw % 4294967296))).setCell ⟨b, 9, none⟩ (.int .i64 1)).setCell ⟨b, 8, none⟩ (.int .i64 (now + 40))) b mac { s with st := 1, id := draw % 4294967296, next := now + 40, tried := 1 }) :=
    (((h.set 6 _ { s with st := 1 } rfl).set 7 _ { s with st := 1, id := draw % 4294967296 } rfl).set 9 _ { s with st := 1, id := draw % 4294967296, tried := 1 } rfl).set 8 _ _ rfl
  go_enter Try.func32, Try.ntmps32
  go_wp2_with fail
  refine (plus now 40 _ h0 (by omega) (by omega) (by omega)).mono ?_
  rintro e w1 ⟨rfl, rfl⟩
  go_wp2_with (first
    | ((with_reducible refine wpList_store_blk rfl 27 28 25 rfl b 10 zeroL.cs (by kernel_rfl) (by kernel_rfl) 63 _ H1.out (by rw [clCs_len]; decide) (by kernel_rfl) zeroL.one ?_); intro w2 hB2 g2; have H2 := Lib.hid (IsC.lay { s with st := 1, id := draw % 4294967296, next := now + 40, tried := 1, offer := zeroL } hB2 rfl); clear hB2)
    | ((with_reducible refine wpList_store_blk rfl 27 30 26 rfl b 26 zeroL.cs (by kernel_rfl) (by kernel_rfl) 63 _ H2.out (by rw [clCs_len]; decide) (by kernel_rfl) zeroL.one ?_); intro w3 hB3 g3; have H3 := Lib.hid (IsC.lay (beginS s now draw) hB3 rfl); clear hB3))
  refine (sameC b mac _ _ H3.out).mono ?_
  rintro e w4 ⟨v, rfl, hm, hb⟩
  go_wp2
  go_ret
  have g1 : w1.grownBy w2 (some b) := only_trans (only_setCell (p := ⟨b, 8, none⟩) (only_setCell (p := ⟨b, 9, none⟩) (only_setCell (p := ⟨b, 7, none⟩) (only_setCell (p := ⟨b, 6, none⟩) (World.grownBy.refl _ _) (.inl rfl) _) (.inl rfl) _) (.inl rfl) _) (.inl rfl) _) g2
  obtain ⟨g, hv, hg, hg2⟩ := hm
  have g4 := only_nx (only_trans g1 g3) hb
  exact ⟨v, rfl, ⟨g, hv, Nat.le_trans (only_trans g1 g3).size hg, hg2⟩, H3.out.nx hb, g4⟩
theorem Does.none_ {w : World} {b : Nat} {mac : M6} {s : St} (h : IsC w b mac s) : Does w w b mac s none (.returned (.slice none 0 0)) := ⟨_, rfl, rfl, h, World.grownBy.refl _ _⟩
def startS (s : St) (now draw : Int) : St := if s.st = 0 then beginS s now draw else s
def startO (mac : M6) (s : St) (now draw : Int) : Option Ls := if s.st = 0 then some (sameM mac (beginS s now draw)) else none
set_option maxHeartbeats 400000 in
theorem startC (b : Nat) (mac : M6) (s : St) (now draw : Int) (w : World) (h : IsC w b mac s) (h0 : 0 ≤ now) (h1 : now ≤ 1152921504606846976) :
    Calls Try.prog 11 #[.pointer (some ⟨b, 0, none⟩), .int .i64 now, .int .i64 draw] w fun e w' => Does w w' b mac (startS s now draw) (startO mac s now draw) e := by
  have c6 : w.cell? ⟨b, 6, none⟩ = some (.int .i64 s.st) := h.cell 6
  unfold startS startO
  by_cases hs : s.st = 0
  · rw [if_pos hs, if_pos hs]
    have q1 : ((s.st : Int) != 0) = false := by rw [bne_eq_false_iff_eq]; exact hs
    clear hs
    go_enter Try.func11, Try.ntmps11
    go_wp2_with fail
    refine (beginsC b mac s now draw _ h h0 h1).mono ?_
    rintro e w1 ⟨v, rfl, hd⟩
    go_wp2
    go_ret
    exact ⟨v, rfl, hd⟩
  · rw [if_neg hs, if_neg hs]
    have q1 : ((s.st : Int) != 0) = true := by rw [bne_iff_ne]; exact hs
    clear hs
    go_enter Try.func11, Try.ntmps11
    go_wp2
    go_ret
    exact Does.none_ h
theorem nothingC (b : Nat) (mac : M6) (s : St) (now draw : Int) (w : World) (h : IsC w b mac s) :
    Calls Try.prog 29 #[.pointer (some ⟨b, 0, none⟩), .int .i64 now, .int .i64 draw] w fun e w' => Does w w' b mac s none e := by
  go_enter Try.func29, Try.ntmps29
  go_wp2
  go_ret
  exact Does.none_ h
def trieS (s : St) (now draw : Int) : St := if s.tried = 4 then beginS s now draw else { s with tried := s.tried + 1, next := now + 40 * (s.tried + 1) }
theorem Msg.more {w : World} {B B' : Nat} {v : Value} {x : Ls} (h : Msg w B v x) (hB : B' ≤ B) : Msg w B' v x := by
  obtain ⟨g, h1, h2, h3⟩ := h
  exact ⟨g, h1, by omega, h3⟩
set_option maxHeartbeats 400000 in
theorem triesC (b : Nat) (mac : M6) (s : St) (now draw : Int) (w : World) (h : IsC w b mac s) (hs : s.ok) (h0 : 0 ≤ now) (h1 : now ≤ 1152921504606846976) :
    Calls Try.prog 30 #[.pointer (some ⟨b, 0, none⟩), .int .i64 now, .int .i64 draw] w fun e w' => Does w w' b mac (trieS s now draw) (some (sameM mac (trieS s now draw))) e := by
  have c8 : w.cell? ⟨b, 8, none⟩ = some (.int .i64 s.next) := h.cell 8
  have c9 : w.cell? ⟨b, 9, none⟩ = some (.int .i64 s.tried) := h.cell 9
  have f8 := Blk.frozen h 8
  have f9 := Blk.frozen h 9
  have n0 := hs.n0
  have n1 := hs.n1
  unfold trieS
  by_cases ht : s.tried = 4
  · rw [if_pos ht]
    have q1 : ((s.tried : Int) == 4) = true := by rw [beq_iff_eq]; exact ht
    clear ht
    go_enter Try.func30, Try.ntmps30
    go_wp2_with fail
    refine (beginsC b mac s now draw _ h h0 h1).mono ?_
    rintro e w1 ⟨v, rfl, hd⟩
    go_wp2
    go_ret
    exact ⟨v, rfl, hd⟩
  · rw [if_neg ht]
    have q1 : ((s.tried : Int) == 4) = false := by rw [beq_eq_false_iff_ne]; exact ht
    clear ht
    have H1 : Hid (IsC ((w.setCell ⟨b, 9, none⟩ (.int .i64 (s.tried + 1))).setCell ⟨b, 8, none⟩ (.int .i64 (now + 40 * (s.tried + 1)))) b mac { s with tried := s.tried + 1, next := now + 40 * (s.tried + 1) }) :=
      (h.set 9 _ { s with tried := s.tried + 1 } rfl).set 8 _ _ rfl
    go_enter Try.func30, Try.ntmps30
    go_wp2_with fail
    refine (plus now (40 * (s.tried + 1)) _ h0 (by omega) (by omega) (by omega)).mono ?_
    rintro e w1 ⟨rfl, rfl⟩
    go_wp2_with fail
    refine (sameC b mac _ _ H1.out).mono ?_
    rintro e w4 ⟨v, rfl, hm, hb⟩
    go_wp2
    go_ret
    have g1 : w.grownBy ((w.setCell ⟨b, 9, none⟩ (.int .i64 (s.tried + 1))).setCell ⟨b, 8, none⟩ (.int .i64 (now + 40 * (s.tried + 1)))) (some b) := only_setCell (p := ⟨b, 8, none⟩) (only_setCell (p := ⟨b, 9, none⟩) (World.grownBy.refl _ _) (.inl rfl) _) (.inl rfl) _
    exact ⟨v, rfl, hm.more g1.size, H1.out.nx hb, only_nx g1 hb⟩
def late (s : St) : Int := s.fr + (10 * s.lease.time / 8 * 7 + 10 * s.lease.time % 8 * 7 / 8)
def renewS (s : St) (now : Int) : St := { s with st := if s.st = 3 then 4 else if s.st = 4 ∧ late s ≤ now then 5 else s.st, next := now + 60 }
end Go.Proofs.Ytgdlghieifadhaa
