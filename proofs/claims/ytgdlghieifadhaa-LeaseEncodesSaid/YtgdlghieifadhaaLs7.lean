/-
  A lease's client: Hear and Tick as one rule each, and the laws' first example.
-/
import Derived.Test.YtgdlghieifadhaaLs6
set_option linter.unusedVariables false
namespace Go.Proofs.Ytgdlghieifadhaa
open Go.RowKit

def hearR (mac : M6) (s : St) (m : Ls) (now draw : Int) : St × Option Ls :=
  if m.op = 2 ∧ m.id = s.id ∧ (m.cl.l != mac.l) = false then
    if s.st = 1 then (if m.ty = 2 ∧ m.yours ≠ 0 ∧ m.server ≠ 0 then (offerS s m now, some (sameM mac (offerS s m now))) else (s, none))
    else if s.st = 2 then (if m.ty = 5 then (if m.yours = s.offer.yours then (bindS s m s.offer.server now, none) else (s, none)) else if m.ty = 6 then (beginS s now draw, some (sameM mac (beginS s now draw))) else (s, none))
    else if 3 < s.st then (if m.ty = 5 then (if m.yours = s.lease.yours then (bindS s m s.lease.server now, none) else (s, none)) else if m.ty = 6 then (beginS s now draw, some (sameM mac (beginS s now draw))) else (s, none))
    else (s, none)
  else (s, none)
theorem hearC (b : Nat) (mac : M6) (s : St) (m : Ls) (now draw : Int) (w : World) (h : IsC w b mac s) (hs : s.ok) (h0 : 0 ≤ now) (h1 : now ≤ 1152921504606846976) :
    Calls Try.prog 12 #[.pointer (some ⟨b, 0, none⟩), .agg m.cs.toArray, .int .i64 now, .int .i64 draw] w fun e w' => Does w w' b mac (hearR mac s m now draw).1 (hearR mac s m now draw).2 e := by
  unfold hearR
  by_cases a1 : m.op = 2
  rotate_left
  · rw [if_neg (fun h => a1 h.1)]; exact hear_op b mac s m now draw w h hs h0 h1 a1
  by_cases a2 : m.id = s.id
  rotate_left
  · rw [if_neg (fun h => a2 h.2.1)]; exact hear_id b mac s m now draw w h hs h0 h1 a1 a2
  by_cases a3 : (m.cl.l != mac.l) = false
  rotate_left
  · rw [if_neg (fun h => a3 h.2.2)]; exact hear_mac b mac s m now draw w h hs h0 h1 a1 a2 (by simpa using a3)
  rw [if_pos ⟨a1, a2, a3⟩]
  by_cases e1 : s.st = 1
  · rw [if_pos e1]
    by_cases f1 : m.ty = 2
    rotate_left
    · rw [if_neg (fun h => f1 h.1)]; exact hear_1t b mac s m now draw w h hs h0 h1 a1 a2 a3 e1 f1
    by_cases f2 : m.yours = 0
    · rw [if_neg (fun h => h.2.1 f2)]; exact hear_1y b mac s m now draw w h hs h0 h1 a1 a2 a3 e1 f1 f2
    by_cases f3 : m.server = 0
    · rw [if_neg (fun h => h.2.2 f3)]; exact hear_1s b mac s m now draw w h hs h0 h1 a1 a2 a3 e1 f1 f2 f3
    rw [if_pos ⟨f1, f2, f3⟩]; exact hear_1ok b mac s m now draw w h hs h0 h1 a1 a2 a3 e1 f1 f2 f3
  rw [if_neg e1]
  by_cases e2 : s.st = 2
  · rw [if_pos e2]
    by_cases f1 : m.ty = 5
    · rw [if_pos f1]
      by_cases f2 : m.yours = s.offer.yours
      · rw [if_pos f2]; exact hear_2b b mac s m now draw w h hs h0 h1 a1 a2 a3 e2 f1 f2
      · rw [if_neg f2]; exact hear_2y b mac s m now draw w h hs h0 h1 a1 a2 a3 e2 f1 f2
    rw [if_neg f1]
    by_cases f2 : m.ty = 6
    · rw [if_pos f2]; exact hear_2r b mac s m now draw w h hs h0 h1 a1 a2 a3 e2 f2
    · rw [if_neg f2]; exact hear_2t b mac s m now draw w h hs h0 h1 a1 a2 a3 e2 f1 f2
  rw [if_neg e2]
  by_cases e4 : 3 < s.st
  · rw [if_pos e4]
    by_cases f1 : m.ty = 5
    · rw [if_pos f1]
      by_cases f2 : m.yours = s.lease.yours
      · rw [if_pos f2]; exact hear_4b b mac s m now draw w h hs h0 h1 a1 a2 a3 e4 f1 f2
      · rw [if_neg f2]; exact hear_4y b mac s m now draw w h hs h0 h1 a1 a2 a3 e4 f1 f2
    rw [if_neg f1]
    by_cases f2 : m.ty = 6
    · rw [if_pos f2]; exact hear_4r b mac s m now draw w h hs h0 h1 a1 a2 a3 e4 f2
    · rw [if_neg f2]; exact hear_4t b mac s m now draw w h hs h0 h1 a1 a2 a3 e4 f1 f2
  rw [if_neg e4]; exact hear_still b mac s m now draw w h hs h0 h1 a1 a2 a3 e1 e2 (by omega)
def tickR (mac : M6) (s : St) (now draw : Int) : St × Option Ls :=
  if 3 ≤ s.st ∧ s.fr + 10 * s.lease.time ≤ now then (beginS s now draw, some (sameM mac (beginS s now draw)))
  else if s.st = 0 ∨ now < s.next then (s, none)
  else if s.st < 3 then (trieS s now draw, some (sameM mac (trieS s now draw)))
  else (renewS s now, some (sameM mac (renewS s now)))
theorem tickC (b : Nat) (mac : M6) (s : St) (now draw : Int) (w : World) (h : IsC w b mac s) (hs : s.ok) (h0 : 0 ≤ now) (h1 : now ≤ 1152921504606846976) :
    Calls Try.prog 15 #[.pointer (some ⟨b, 0, none⟩), .int .i64 now, .int .i64 draw] w fun e w' => Does w w' b mac (tickR mac s now draw).1 (tickR mac s now draw).2 e := by
  unfold tickR
  have hk : s.st = 0 ∨ s.st = 1 ∨ s.st = 2 ∨ s.st = 3 ∨ s.st = 4 ∨ s.st = 5 := by have := hs.st0; have := hs.st5; omega
  rcases hk with hk | hk | hk | hk | hk | hk
  · rw [if_neg (by omega), if_pos (.inl hk)]
    by_cases hn : now < s.next
    · exact tick_early0 b mac s now draw w h hs hk h0 h1 hn
    · exact tick_act0 b mac s now draw w h hs hk h0 h1 (by omega)
  · rw [if_neg (by omega)]
    by_cases hn : now < s.next
    · rw [if_pos (.inr hn)]; exact tick_early1 b mac s now draw w h hs hk h0 h1 hn
    · rw [if_neg (by omega), if_pos (by omega)]; exact tick_act1 b mac s now draw w h hs hk h0 h1 (by omega)
  · rw [if_neg (by omega)]
    by_cases hn : now < s.next
    · rw [if_pos (.inr hn)]; exact tick_early2 b mac s now draw w h hs hk h0 h1 hn
    · rw [if_neg (by omega), if_pos (by omega)]; exact tick_act2 b mac s now draw w h hs hk h0 h1 (by omega)
  · by_cases ho : s.fr + 10 * s.lease.time ≤ now
    · rw [if_pos ⟨by omega, ho⟩]; exact tick_over3 b mac s now draw w h hs hk h0 h1 ho
    · rw [if_neg (fun h => ho h.2)]
      by_cases hn : now < s.next
      · rw [if_pos (.inr hn)]; exact tick_early3 b mac s now draw w h hs hk h0 h1 (by omega) hn
      · rw [if_neg (by omega), if_neg (by omega)]; exact tick_act3 b mac s now draw w h hs hk h0 h1 (by omega) (by omega)
  · by_cases ho : s.fr + 10 * s.lease.time ≤ now
    · rw [if_pos ⟨by omega, ho⟩]; exact tick_over4 b mac s now draw w h hs hk h0 h1 ho
    · rw [if_neg (fun h => ho h.2)]
      by_cases hn : now < s.next
      · rw [if_pos (.inr hn)]; exact tick_early4 b mac s now draw w h hs hk h0 h1 (by omega) hn
      · rw [if_neg (by omega), if_neg (by omega)]; exact tick_act4 b mac s now draw w h hs hk h0 h1 (by omega) (by omega)
  · by_cases ho : s.fr + 10 * s.lease.time ≤ now
    · rw [if_pos ⟨by omega, ho⟩]; exact tick_over5 b mac s now draw w h hs hk h0 h1 ho
    · rw [if_neg (fun h => ho h.2)]
      by_cases hn : now < s.next
      · rw [if_pos (.inr hn)]; exact tick_early5 b mac s now draw w h hs hk h0 h1 (by omega) hn
      · rw [if_neg (by omega), if_neg (by omega)]; exact tick_act5 b mac s now draw w h hs hk h0 h1 (by omega) (by omega)

theorem same_begin (mac : M6) (s : St) (now draw : Int) : sameM mac (beginS s now draw) = says mac (draw % 4294967296) 1 0 0 := if_pos rfl
-- a new client that has been started
theorem start_new (b : Nat) (mac : M6) (now draw : Int) (w : World) (h : IsC w b mac newS) (h0 : 0 ≤ now) (h1 : now ≤ 1152921504606846976) :
    Calls Try.prog 11 #[.pointer (some ⟨b, 0, none⟩), .int .i64 now, .int .i64 draw] w fun e w' => ∃ g, e = .returned (.slice (some ⟨g, 0, none⟩) 1 1) ∧ w.heap.size ≤ g ∧
      Blk w' g 27 (says mac (draw % 4294967296) 1 0 0).cs.toArray ∧ IsC w' b mac (beginS newS now draw) ∧ w.grownBy w' (some b) := by
  refine (startC b mac newS now draw w h h0 h1).mono ?_
  rintro e w' ⟨v, rfl, ho, hC, hg⟩
  obtain ⟨g, rfl, h2, h3⟩ : Msg w' w.heap.size v (sameM mac (beginS newS now draw)) := ho
  rw [same_begin] at h3
  exact ⟨g, rfl, h2, h3, hC, hg⟩
set_option maxHeartbeats 800000 in
theorem known (w : World) : Calls Try.prog 14 #[] w fun e w' => e = .returned (.bool true) ∧ Below w.heap.size w w' := by
  go_enter Try.func14, Try.ntmps14
  go_wp2_with fail
  refine (newC ⟨2, 0, 0, 0, 0, 0⟩ _).mono ?_
  rintro e w1 ⟨b, rfl, hb, hC, hb1⟩
  go_wp2_with fail
  refine (start_new b _ 0 9 _ hC (by decide) (by decide)).mono ?_
  rintro e w2 ⟨g, rfl, hg, hM, hC2, hg2⟩
  have m1 : w2.cell? ⟨g, 1, none⟩ = some (.int .u32 9) := hM.cell 1
  have m9 : w2.cell? ⟨g, 9, none⟩ = some (.int .i64 1) := hM.cell 9
  go_wp2_with fail
  refine (stateC b _ _ _ hC2).mono ?_
  rintro e w3 ⟨rfl, rfl⟩
  rw [show (beginS newS 0 9).st = 1 from rfl]
  go_wp2
  go_ret
  exact ⟨rfl, hb1.trans (below_only hg2 hb hb1.size)⟩
end Go.Proofs.Ytgdlghieifadhaa
