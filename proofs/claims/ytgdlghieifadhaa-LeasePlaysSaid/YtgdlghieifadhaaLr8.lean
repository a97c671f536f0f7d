/-
  The reference's client of a lease: Hear and Tick as one rule each; the two clients go on alike.
-/
import Derived.Test.YtgdlghieifadhaaLr5
import Derived.Test.YtgdlghieifadhaaLr6
import Derived.Test.YtgdlghieifadhaaLs7
set_option linter.unusedVariables false
namespace Go.Proofs.Ytgdlghieifadhaa
open Go.RowKit

def begM (mac : M6) (draw : Int) : Ls := says mac (draw % 4294967296) 1 0 0
def hearFR (mac : M6) (s : St) (m : Ls) (now draw : Int) : St × Option Ls :=
  if m.op = 2 ∧ m.id = s.id ∧ (m.cl.l != mac.l) = false then
    if s.st = 1 then (if m.ty = 2 ∧ m.yours ≠ 0 ∧ m.server ≠ 0 then (offerR s m now, some (says mac s.id 3 m.yours m.server)) else (s, none))
    else if s.st = 2 then (if m.ty = 5 then (if m.yours = s.offer.yours then (bindS s m s.offer.server now, none) else (s, none)) else if m.ty = 6 then (beginF s now draw, some (begM mac draw)) else (s, none))
    else if s.st = 4 ∨ s.st = 5 then (if m.ty = 5 then (if m.yours = s.lease.yours then (bindS s m s.lease.server now, none) else (s, none)) else if m.ty = 6 then (beginF s now draw, some (begM mac draw)) else (s, none))
    else (s, none)
  else (s, none)
theorem hearF (b : Nat) (mac : M6) (s : St) (m : Ls) (now draw : Int) (w : World) (h : IsRf w b mac s) (h0 : 0 ≤ now) (h1 : now ≤ 1152921504606846976) :
    Calls Try.prog 21 #[.pointer (some ⟨b, 0, none⟩), .agg m.cs.toArray, .int .i64 now, .int .i64 draw] w fun e w' => DoesR w w' b mac (hearFR mac s m now draw).1 (hearFR mac s m now draw).2 e := by
  unfold hearFR begM
  by_cases a1 : m.op = 2
  rotate_left
  · rw [if_neg (fun h => a1 h.1)]; exact hearF_op b mac s m now draw w h h0 h1 a1
  by_cases a2 : m.id = s.id
  rotate_left
  · rw [if_neg (fun h => a2 h.2.1)]; exact hearF_id b mac s m now draw w h h0 h1 a1 a2
  by_cases a3 : (m.cl.l != mac.l) = false
  rotate_left
  · rw [if_neg (fun h => a3 h.2.2)]; exact hearF_mac b mac s m now draw w h h0 h1 a1 a2 (by simpa using a3)
  rw [if_pos ⟨a1, a2, a3⟩]
  by_cases e1 : s.st = 1
  · rw [if_pos e1]
    by_cases f1 : m.ty = 2
    rotate_left
    · rw [if_neg (fun h => f1 h.1)]; exact hearF_1t b mac s m now draw w h h0 h1 a1 a2 a3 e1 f1
    by_cases f2 : m.yours = 0
    · rw [if_neg (fun h => h.2.1 f2)]; exact hearF_1y b mac s m now draw w h h0 h1 a1 a2 a3 e1 f1 f2
    by_cases f3 : m.server = 0
    · rw [if_neg (fun h => h.2.2 f3)]; exact hearF_1s b mac s m now draw w h h0 h1 a1 a2 a3 e1 f1 f2 f3
    rw [if_pos ⟨f1, f2, f3⟩]; exact hearF_1ok b mac s m now draw w h h0 h1 a1 a2 a3 e1 f1 f2 f3
  rw [if_neg e1]
  by_cases e2 : s.st = 2
  · rw [if_pos e2]
    by_cases f1 : m.ty = 5
    · rw [if_pos f1]
      by_cases f2 : m.yours = s.offer.yours
      · rw [if_pos f2]; exact hearF_2b b mac s m now draw w h h0 h1 a1 a2 a3 e2 f1 f2
      · rw [if_neg f2]; exact hearF_2y b mac s m now draw w h h0 h1 a1 a2 a3 e2 f1 f2
    rw [if_neg f1]
    by_cases f2 : m.ty = 6
    · rw [if_pos f2]; exact hearF_2r b mac s m now draw w h h0 h1 a1 a2 a3 e2 f2
    · rw [if_neg f2]; exact hearF_2t b mac s m now draw w h h0 h1 a1 a2 a3 e2 f1 f2
  rw [if_neg e2]
  by_cases e4 : s.st = 4
  · rw [if_pos (.inl e4)]
    by_cases f1 : m.ty = 5
    · rw [if_pos f1]
      by_cases f2 : m.yours = s.lease.yours
      · rw [if_pos f2]; exact hearF_4b b mac s m now draw w h h0 h1 a1 a2 a3 e4 f1 f2
      · rw [if_neg f2]; exact hearF_4y b mac s m now draw w h h0 h1 a1 a2 a3 e4 f1 f2
    rw [if_neg f1]
    by_cases f2 : m.ty = 6
    · rw [if_pos f2]; exact hearF_4r b mac s m now draw w h h0 h1 a1 a2 a3 e4 f2
    · rw [if_neg f2]; exact hearF_4t b mac s m now draw w h h0 h1 a1 a2 a3 e4 f1 f2
  by_cases e5 : s.st = 5
  · rw [if_pos (.inr e5)]
    by_cases f1 : m.ty = 5
    · rw [if_pos f1]
      by_cases f2 : m.yours = s.lease.yours
      · rw [if_pos f2]; exact hearF_5b b mac s m now draw w h h0 h1 a1 a2 a3 e5 f1 f2
      · rw [if_neg f2]; exact hearF_5y b mac s m now draw w h h0 h1 a1 a2 a3 e5 f1 f2
    rw [if_neg f1]
    by_cases f2 : m.ty = 6
    · rw [if_pos f2]; exact hearF_5r b mac s m now draw w h h0 h1 a1 a2 a3 e5 f2
    · rw [if_neg f2]; exact hearF_5t b mac s m now draw w h h0 h1 a1 a2 a3 e5 f1 f2
  rw [if_neg (by rintro (h | h) <;> contradiction)]; exact hearF_still b mac s m now draw w h h0 h1 a1 a2 a3 e1 e2 e4 e5
def tryS (s : St) (now : Int) : St := { s with tried := s.tried + 1, next := now + 40 * (s.tried + 1) }
def tickFR (mac : M6) (s : St) (now draw : Int) : St × Option Ls :=
  if 3 ≤ s.st ∧ s.fr + 10 * s.lease.time ≤ now then (beginF s now draw, some (begM mac draw))
  else if s.st = 0 ∨ now < s.next then (s, none)
  else if s.st < 3 then (if s.tried = 4 then (beginF s now draw, some (begM mac draw)) else (tryS s now, some (if s.st = 1 then says mac s.id 1 0 0 else says mac s.id 3 s.offer.yours s.offer.server)))
  else (renewS s now, some (says mac s.id 3 s.lease.yours 0))
theorem tickF (b : Nat) (mac : M6) (s : St) (now draw : Int) (w : World) (h : IsRf w b mac s) (hs : s.ok) (h0 : 0 ≤ now) (h1 : now ≤ 1152921504606846976) :
    Calls Try.prog 22 #[.pointer (some ⟨b, 0, none⟩), .int .i64 now, .int .i64 draw] w fun e w' => DoesR w w' b mac (tickFR mac s now draw).1 (tickFR mac s now draw).2 e := by
  unfold tickFR begM tryS renewS
  have hk : s.st = 0 ∨ s.st = 1 ∨ s.st = 2 ∨ s.st = 3 ∨ s.st = 4 ∨ s.st = 5 := by have := hs.st0; have := hs.st5; omega
  by_cases ho : 3 ≤ s.st ∧ s.fr + 10 * s.lease.time ≤ now
  · rw [if_pos ho]; exact tickF_over b mac s now draw w h hs h0 h1 ho.1 ho.2
  rw [if_neg ho]
  by_cases hz : s.st = 0
  · rw [if_pos (.inl hz)]; exact tickF_idle b mac s now draw w h hs h0 h1 hz
  by_cases hn : now < s.next
  · rw [if_pos (.inr hn)]
    by_cases h3 : s.st < 3
    · exact tickF_early1 b mac s now draw w h hs h0 h1 h3 hz hn
    · exact tickF_early3 b mac s now draw w h hs h0 h1 (by omega) (by omega) hn
  rw [if_neg (by omega)]
  rcases hk with hk | hk | hk | hk | hk | hk
  · exact absurd hk hz
  · rw [if_pos (by omega)]
    by_cases ht : s.tried = 4
    · rw [if_pos ht]; exact tickF_again1 b mac s now draw w h hs h0 h1 hk (by omega) ht
    · rw [if_neg ht, if_pos hk]; exact tickF_try1 b mac s now draw w h hs h0 h1 hk (by omega) ht
  · rw [if_pos (by omega)]
    by_cases ht : s.tried = 4
    · rw [if_pos ht]; exact tickF_again2 b mac s now draw w h hs h0 h1 hk (by omega) ht
    · rw [if_neg ht, if_neg (by omega)]; exact tickF_try2 b mac s now draw w h hs h0 h1 hk (by omega) ht
  · rw [if_neg (by omega), if_pos hk]; exact tickF_renew3 b mac s now draw w h hs h0 h1 hk (by omega) (by omega)
  · rw [if_neg (by omega), if_neg (by omega)]
    by_cases hl : late s ≤ now
    · rw [if_pos ⟨hk, hl⟩]; exact tickF_renew4l b mac s now draw w h hs h0 h1 hk hl (by omega) (by omega)
    · rw [if_neg (fun h => hl h.2)]; exact tickF_renew4 b mac s now draw w h hs h0 h1 hk (by omega) (by omega) (by omega)
  · rw [if_neg (by omega), if_neg (by omega), if_neg (by omega)]; exact tickF_renew5 b mac s now draw w h hs h0 h1 hk (by omega) (by omega)

-- the two go on alike: all but the offer is the same, and that too while it is asked for
def Rel (s r : St) : Prop := ∃ o, r = { s with offer := o } ∧ (s.st = 2 → o = s.offer)
theorem Rel.self (s : St) : Rel s s := ⟨s.offer, rfl, fun _ => rfl⟩
theorem Rel.ok {s r : St} (h : Rel s r) (hs : s.ok) : r.ok := by
  obtain ⟨o, rfl, _⟩ := h
  exact ⟨hs.st0, hs.st5, hs.t0, hs.t1, hs.f0, hs.f1, hs.n0, hs.n1⟩
theorem begin_rel (s r : St) (h : Rel s r) (now draw : Int) : Rel (beginS s now draw) (beginF r now draw) := by
  obtain ⟨o, rfl, _⟩ := h
  exact ⟨o, rfl, fun h => absurd (show (1 : Int) = 2 from h) (by decide)⟩
theorem start_rel (mac : M6) (s r : St) (h : Rel s r) (now draw : Int) : Rel (startS s now draw) (startR r now draw) ∧ startO mac r now draw = startO mac s now draw := by
  have hb := begin_rel s r h now draw
  obtain ⟨o, rfl, h2⟩ := h
  unfold startS startR startO
  by_cases h0 : s.st = 0
  · simp only [h0, if_true]; exact ⟨hb, by rw [same_begin, same_begin]⟩
  · simp only [h0, if_false]; exact ⟨⟨o, rfl, h2⟩, trivial⟩
theorem release_rel (mac : M6) (s r : St) (h : Rel s r) : Rel (relS s) (relR r) ∧ relO mac r = relO mac s := by
  obtain ⟨o, rfl, _⟩ := h
  exact ⟨⟨o, rfl, fun h => absurd (show (0 : Int) = 2 from h) (by decide)⟩, rfl⟩
theorem bind_rel (s r : St) (h : Rel s r) (m : Ls) (sv now : Int) : Rel (bindS s m sv now) (bindS r m sv now) := by
  obtain ⟨o, rfl, _⟩ := h
  exact ⟨o, rfl, fun h => absurd (show (3 : Int) = 2 from h) (by decide)⟩
theorem hear_rel (mac : M6) (s r : St) (h : Rel s r) (hs : s.ok) (m : Ls) (now draw : Int) : Rel (hearR mac s m now draw).1 (hearFR mac r m now draw).1 ∧ (hearFR mac r m now draw).2 = (hearR mac s m now draw).2 := by
  have hb := begin_rel s r h now draw
  have hd := fun sv => bind_rel s r h m sv now
  have hh := h
  have h0 := hs.st0
  have h5 := hs.st5
  have hbeg : begM mac draw = sameM mac (beginS s now draw) := (same_begin mac s now draw).symm
  obtain ⟨o, rfl, h2⟩ := h
  unfold hearR hearFR
  by_cases c : m.op = 2 ∧ m.id = s.id ∧ (m.cl.l != mac.l) = false
  rotate_left
  · rw [if_neg c, if_neg c]; exact ⟨hh, rfl⟩
  rw [if_pos c, if_pos c]
  by_cases e1 : s.st = 1
  · rw [if_pos e1, if_pos e1]
    by_cases c : m.ty = 2 ∧ m.yours ≠ 0 ∧ m.server ≠ 0
    · rw [if_pos c, if_pos c]
      exact ⟨⟨m, rfl, fun _ => rfl⟩, rfl⟩
    · rw [if_neg c, if_neg c]; exact ⟨hh, rfl⟩
  rw [if_neg e1, if_neg e1]
  by_cases e2 : s.st = 2
  · rw [if_pos e2, if_pos e2]
    obtain rfl := h2 e2
    by_cases c : m.ty = 5
    · rw [if_pos c, if_pos c]
      by_cases d : m.yours = s.offer.yours
      · rw [if_pos d]; exact ⟨hd _, rfl⟩
      · rw [if_neg d]; exact ⟨hh, rfl⟩
    · rw [if_neg c, if_neg c]
      by_cases d : m.ty = 6
      · rw [if_pos d, if_pos d]; exact ⟨hb, by rw [hbeg]⟩
      · rw [if_neg d, if_neg d]; exact ⟨hh, rfl⟩
  rw [if_neg e2, if_neg e2]
  by_cases e3 : 3 < s.st
  · rw [if_pos e3, if_pos (show s.st = 4 ∨ s.st = 5 by omega)]
    by_cases c : m.ty = 5
    · rw [if_pos c, if_pos c]
      by_cases d : m.yours = s.lease.yours
      · rw [if_pos d, if_pos d]; exact ⟨hd _, rfl⟩
      · rw [if_neg d, if_neg d]; exact ⟨hh, rfl⟩
    · rw [if_neg c, if_neg c]
      by_cases d : m.ty = 6
      · rw [if_pos d, if_pos d]; exact ⟨hb, by rw [hbeg]⟩
      · rw [if_neg d, if_neg d]; exact ⟨hh, rfl⟩
  · rw [if_neg e3, if_neg (show ¬ (s.st = 4 ∨ s.st = 5) by omega)]; exact ⟨hh, rfl⟩
theorem tick_rel (mac : M6) (s r : St) (h : Rel s r) (hs : s.ok) (now draw : Int) : Rel (tickR mac s now draw).1 (tickFR mac r now draw).1 ∧ (tickFR mac r now draw).2 = (tickR mac s now draw).2 := by
  have hb := begin_rel s r h now draw
  have hh := h
  have h0 := hs.st0
  have h5 := hs.st5
  have hbeg : begM mac draw = sameM mac (beginS s now draw) := (same_begin mac s now draw).symm
  obtain ⟨o, rfl, h2⟩ := h
  unfold tickR tickFR
  by_cases ho : 3 ≤ s.st ∧ s.fr + 10 * s.lease.time ≤ now
  · rw [if_pos ho, if_pos ho]; exact ⟨hb, by rw [hbeg]⟩
  rw [if_neg ho, if_neg ho]
  by_cases hz : s.st = 0 ∨ now < s.next
  · rw [if_pos hz, if_pos hz]; exact ⟨hh, rfl⟩
  rw [if_neg hz, if_neg hz]
  by_cases h3 : s.st < 3
  · rw [if_pos h3, if_pos h3]
    unfold trieS
    by_cases ht : s.tried = 4
    · rw [if_pos ht, if_pos ht]; exact ⟨hb, by rw [hbeg]⟩
    · rw [if_neg ht, if_neg ht]
      refine ⟨⟨o, rfl, h2⟩, ?_⟩
      have hk : s.st = 1 ∨ s.st = 2 := by omega
      unfold sameM
      rcases hk with hk | hk
      · simp only [hk, if_true]
      · obtain rfl := h2 hk
        simp only [hk, if_true]
  · rw [if_neg h3, if_neg h3]
    have hn : (renewS s now).st = 4 ∨ (renewS s now).st = 5 := by
      show (if s.st = 3 then (4 : Int) else if s.st = 4 ∧ late s ≤ now then 5 else s.st) = 4 ∨ (if s.st = 3 then (4 : Int) else if s.st = 4 ∧ late s ≤ now then 5 else s.st) = 5
      by_cases a : s.st = 3
      · rw [if_pos a]; exact .inl rfl
      · rw [if_neg a]
        by_cases b : s.st = 4 ∧ late s ≤ now
        · rw [if_pos b]; exact .inr rfl
        · rw [if_neg b]; omega
    refine ⟨⟨o, rfl, fun h => by have h : (renewS s now).st = 2 := h; omega⟩, ?_⟩
    show _ = some (sameM mac (renewS s now))
    unfold sameM
    rw [if_neg (by omega), if_neg (by omega)]; rfl
theorem begin_ok (s : St) (hs : s.ok) (now draw : Int) : (beginS s now draw).ok :=
  ⟨by show (0 : Int) ≤ 1; decide, by show (1 : Int) ≤ 5; decide, by show (0 : Int) ≤ 0; decide, by show (0 : Int) ≤ 2147483647; decide, hs.f0, hs.f1, by show (0 : Int) ≤ 1; decide, by show (1 : Int) ≤ 4; decide⟩
theorem bind_ok (s : St) (hs : s.ok) (m : Ls) (sv now : Int) (h0 : 0 ≤ now) (h1 : now ≤ 1152921504606846976) : (bindS s m sv now).ok :=
  ⟨by show (0 : Int) ≤ 3; decide, by show (3 : Int) ≤ 5; decide, by show 0 ≤ min (if m.time < 1 then 3600 else m.time) 2147483647; split <;> omega, by show min (if m.time < 1 then 3600 else m.time) 2147483647 ≤ 2147483647; omega, h0, h1, hs.n0, hs.n1⟩
theorem start_ok (s : St) (hs : s.ok) (now draw : Int) : (startS s now draw).ok := by
  unfold startS; split
  · exact begin_ok s hs now draw
  · exact hs
theorem release_ok (s : St) (hs : s.ok) : (relS s).ok :=
  ⟨by show (0 : Int) ≤ 0; decide, by show (0 : Int) ≤ 5; decide, by show (0 : Int) ≤ 0; decide, by show (0 : Int) ≤ 2147483647; decide, hs.f0, hs.f1, hs.n0, hs.n1⟩
theorem hear_ok (mac : M6) (s : St) (hs : s.ok) (m : Ls) (now draw : Int) (h0 : 0 ≤ now) (h1 : now ≤ 1152921504606846976) : (hearR mac s m now draw).1.ok := by
  have hb := begin_ok s hs now draw
  have hd := fun sv => bind_ok s hs m sv now h0 h1
  have ho : (offerS s m now).ok := ⟨by show (0 : Int) ≤ 2; decide, by show (2 : Int) ≤ 5; decide, hs.t0, hs.t1, hs.f0, hs.f1, by show (0 : Int) ≤ 1; decide, by show (1 : Int) ≤ 4; decide⟩
  unfold hearR
  repeat' split
  all_goals first | exact hs | exact hb | exact hd _ | exact ho
theorem tick_ok (mac : M6) (s : St) (hs : s.ok) (now draw : Int) : (tickR mac s now draw).1.ok := by
  have hb := begin_ok s hs now draw
  have h0 := hs.st0
  have h5 := hs.st5
  have n0 := hs.n0
  have n1 := hs.n1
  unfold tickR
  by_cases ho : 3 ≤ s.st ∧ s.fr + 10 * s.lease.time ≤ now
  · rw [if_pos ho]; exact hb
  rw [if_neg ho]
  by_cases hz : s.st = 0 ∨ now < s.next
  · rw [if_pos hz]; exact hs
  rw [if_neg hz]
  by_cases h3 : s.st < 3
  · rw [if_pos h3]
    show (trieS s now draw).ok
    unfold trieS
    by_cases ht : s.tried = 4
    · rw [if_pos ht]; exact hb
    · rw [if_neg ht]
      exact ⟨hs.st0, hs.st5, hs.t0, hs.t1, hs.f0, hs.f1, by show 0 ≤ s.tried + 1; omega, by show s.tried + 1 ≤ 4; omega⟩
  · rw [if_neg h3]
    have hn : 0 ≤ (renewS s now).st ∧ (renewS s now).st ≤ 5 := by
      show 0 ≤ (if s.st = 3 then (4 : Int) else if s.st = 4 ∧ late s ≤ now then 5 else s.st) ∧ (if s.st = 3 then (4 : Int) else if s.st = 4 ∧ late s ≤ now then 5 else s.st) ≤ 5
      split
      · decide
      · split
        · decide
        · exact ⟨h0, h5⟩
    exact ⟨hn.1, hn.2, hs.t0, hs.t1, hs.f0, hs.f1, hs.n0, hs.n1⟩
end Go.Proofs.Ytgdlghieifadhaa
