/-
  What a client has it has not beyond its time, whatever the server does not say. No conditions.
-/
import Derived.Test.YtgdlghieifadhaaLsB
import Derived.Test.YtgdlghieifadhaaLsO
set_option linter.unusedVariables false
namespace Go.Proofs.Ytgdlghieifadhaa
open Go.ChangeShapes Go.WideShapes Go.ChangeAt Go.RowKit

def macO : M6 := ⟨2, 0, 0, 0, 0, 1⟩
def ov (yours T f st nx : Int) : St := ⟨st, 5 % 4294967296, nx, 1, offL macO 5 yours T 2, offL macO 5 yours T 5, f⟩
theorem blO (yours T : Int) (h0 : 1 ≤ T) (h1 : T ≤ 1000000) : bindL (offL macO 5 yours T 5) 77 = offL macO 5 yours T 5 := by
  have e : min (if T < 1 then 3600 else T) 2147483647 = T := by rw [if_neg (by omega)]; omega
  show Ls.mk _ _ _ _ _ (if (77 : Int) = 0 then 77 else 77) _ (min (if T < 1 then 3600 else T) 2147483647) _ _ _ = _
  rw [e]; rfl
theorem bind_ov (yours T t f : Int) (h0 : 1 ≤ T) (h1 : T ≤ 1000000) : bindS (offerS (beginS newS t 5) (offL macO 5 yours T 2) t) (offL macO 5 yours T 5) 77 f = ov yours T f 3 (f + 5 * T) := by
  show St.mk 3 _ (f + 10 * (bindL (offL macO 5 yours T 5) 77).time / 2) 1 _ (bindL (offL macO 5 yours T 5) 77) f = _
  rw [blO yours T h0 h1]
  show St.mk 3 _ (f + 10 * T / 2) 1 _ _ f = _
  rw [show f + 10 * T / 2 = f + 5 * T by omega]; rfl
theorem ov_ok (yours T f st nx : Int) (h0 : 1 ≤ T) (h1 : T ≤ 1000000) (f0 : 0 ≤ f) (f1 : f ≤ 10000000) (s0 : 3 ≤ st) (s1 : st ≤ 5) : (ov yours T f st nx).ok :=
  ⟨by show (0 : Int) ≤ st; omega, s1, by show 0 ≤ T; omega, by show T ≤ 2147483647; omega, f0, by show f ≤ 1152921504606846976; omega, by show (0 : Int) ≤ 1; decide, by show (1 : Int) ≤ 4; decide⟩
theorem ov_early (yours T f st nx t : Int) (h0 : t < f + 10 * T) (ht : t < nx) : tickR macO (ov yours T f st nx) t 6 = (ov yours T f st nx, none) := by
  unfold tickR
  rw [if_neg (fun h => by have := h.2; have h2 : f + 10 * T ≤ t := this; omega), if_pos (.inr ht)]
theorem ov_due (yours T f st nx t : Int) (s0 : 3 ≤ st) (h0 : t < f + 10 * T) (ht : nx ≤ t) : ∃ st', 4 ≤ st' ∧ (st ≤ 5 → st' ≤ 5) ∧ tickR macO (ov yours T f st nx) t 6 = (ov yours T f st' (t + 60), some (says macO 5 3 yours 0)) := by
  refine ⟨if st = 3 then 4 else if st = 4 ∧ late (ov yours T f st nx) ≤ t then 5 else st, by (repeat' split) <;> omega, by (repeat' split) <;> omega, ?_⟩
  unfold tickR
  rw [if_neg (fun h => by have := h.2; have h2 : f + 10 * T ≤ t := this; omega), if_neg (by intro h; rcases h with h | h; exact absurd (show st = 0 from h) (by omega); have h2 : t < nx := h; omega), if_neg (by show ¬ st < 3; omega)]
  have hst : ∀ k : Int, 3 ≤ k → sameM macO (ov yours T f k (t + 60)) = says macO 5 3 yours 0 := fun k hk => by
    unfold sameM
    rw [if_neg (by show ¬ k = 1; omega), if_neg (by show ¬ k = 2; omega)]
    rfl
  show (ov yours T f _ (t + 60), some (sameM macO (ov yours T f _ (t + 60)))) = _
  rw [hst _ (by show 3 ≤ (if st = 3 then 4 else if st = 4 ∧ late (ov yours T f st nx) ≤ t then 5 else st); (repeat' split) <;> omega)]
  rfl
theorem ov_over (yours T f st nx t : Int) (s0 : 3 ≤ st) (h0 : f + 10 * T ≤ t) : ∃ s', s'.st = 1 ∧ tickR macO (ov yours T f st nx) t 6 = (s', some (says macO 6 1 0 0)) := by
  refine ⟨beginS (ov yours T f st nx) t 6, rfl, ?_⟩
  unfold tickR
  rw [if_pos ⟨s0, h0⟩]
  rfl
set_option maxRecDepth 100000 in
set_option maxHeartbeats 1600000 in
theorem leaseOver_out (yours T t0 : Int) (w : World) (hh : ¬ (yours ≠ 0 ∧ 1 ≤ T ∧ T ≤ 400 ∧ 0 ≤ t0 ∧ t0 ≤ 1000000)) :
    Calls Try.prog 4 #[.int .u32 yours, .int .i64 T, .int .i64 t0] w fun e w' => e = .returned (.bool true) ∧ Below w.heap.size w w' := by
  by_cases hy : yours = 0
  · have q0 : ((yours : Int) == 0) = true := by rw [beq_iff_eq]; exact hy
    clear hy hh
    go_enter Try.func4, Try.ntmps4
    go_wp2_with fail
    refine (known _).mono ?_
    rintro e w5 ⟨rfl, hb5⟩
    go_wp2
    go_ret
    exact ⟨rfl, hb5⟩

  · have q0 : ((yours : Int) == 0) = false := by rw [beq_eq_false_iff_ne]; exact hy
    have hc : T < 1 ∨ (1 ≤ T ∧ 400 < T) ∨ (1 ≤ T ∧ T ≤ 400 ∧ t0 < 0) ∨ (1 ≤ T ∧ T ≤ 400 ∧ 0 ≤ t0 ∧ 1000000 < t0) := by
      by_cases a : T < 1
      · exact .inl a
      · by_cases a2 : 400 < T
        · exact .inr (.inl ⟨by omega, a2⟩)
        · by_cases a3 : t0 < 0
          · exact .inr (.inr (.inl ⟨by omega, by omega, a3⟩))
          · exact .inr (.inr (.inr ⟨by omega, by omega, by omega, Decidable.byContradiction fun h => hh ⟨hy, by omega, by omega, by omega, by omega⟩⟩))
    clear hh hy
    rcases hc with hc | ⟨c1, hc⟩ | ⟨c1, c2, hc⟩ | ⟨c1, c2, c3, hc⟩
    all_goals
      go_enter Try.func4, Try.ntmps4
      go_wp2_with fail
      refine (known _).mono ?_
      rintro e w5 ⟨rfl, hb5⟩
      go_wp2
      go_ret
      exact ⟨rfl, hb5⟩


set_option maxRecDepth 100000 in
set_option maxHeartbeats 3200000 in
theorem leaseOver_in (yours T t0 : Int) (w : World) (hy : yours ≠ 0) (h0 : 1 ≤ T) (h1 : T ≤ 400) (h2 : 0 ≤ t0) (h3 : t0 ≤ 1000000) :
    Calls Try.prog 4 #[.int .u32 yours, .int .i64 T, .int .i64 t0] w fun e w' => e = .returned (.bool true) ∧ Below w.heap.size w w' := by
  have q0 : ((yours : Int) == 0) = false := by rw [beq_eq_false_iff_ne]; exact hy
  have qn : ((yours : Int) != yours) = false := by simp
  have HY := Lib.hid hy; clear hy
  have X0 : Blk (w.alloc (.cells #[.int .u8 2, .int .u8 0, .int .u8 0, .int .u8 0, .int .u8 0, .int .u8 1] 25)) w.heap.size 25 #[.int .u8 2, .int .u8 0, .int .u8 0, .int .u8 0, .int .u8 0, .int .u8 1] := Blk.new _ _ _
  have b0 := al (rf w) (.cells #[.int .u8 2, .int .u8 0, .int .u8 0, .int .u8 0, .int .u8 0, .int .u8 1] 25)
  go_enter Try.func4, Try.ntmps4
  go_wp2_with fail
  refine (newC macO _).mono ?_
  rintro e w1 ⟨b, rfl, hb, hC, hb1⟩
  have X1 := X0.nx hb1
  have bw1 := nx b0 hb1
  have z1 : w.heap.size < b := by have := hb; simp at this; omega
  clear X0 b0 hb1
  go_wp2_with fail
  refine (start_new b _ t0 5 _ hC h2 (by omega)).mono ?_
  rintro e w2 ⟨g, rfl, hg, hM, hC2, hg2⟩
  have X2 := X1.only hg2 (by omega)
  have bw2 : Below w.heap.size w w2 := bw1.trans (below_only hg2 (by omega) bw1.size)
  have hlt := Blk.lt hC
  have z3 := Blk.lt hM
  clear X1 bw1 hC hg2
  have m1 : w2.cell? ⟨g, 1, none⟩ = some (.int .u32 5) := hM.cell 1
  obtain ⟨x0, x1, x2, x3, x4, x5⟩ := cells6 X2
  have e1 := World.new_ne w2 _ m1
  have e2 := World.new_ne w2 _ x0
  go_wp2
  go_region_held3 (fun w' => w'.cell? ⟨g, 1, none⟩ = some (.int .u32 5) ∧ w'.cell? ⟨w.heap.size, 0, none⟩ = some (.int .u8 2) ∧ w'.cell? ⟨w.heap.size, 1, none⟩ = some (.int .u8 0) ∧ w'.cell? ⟨w.heap.size, 2, none⟩ = some (.int .u8 0) ∧ w'.cell? ⟨w.heap.size, 3, none⟩ = some (.int .u8 0) ∧ w'.cell? ⟨w.heap.size, 4, none⟩ = some (.int .u8 0) ∧ w'.cell? ⟨w.heap.size, 5, none⟩ = some (.int .u8 1)) (go_keep) (fail)
  have O1' := Lib.hid (show Blk ((w2.alloc (.cells #[.int .i64 2, .int .u32 5, .int .u32 yours, .int .u8 2, .int .u8 0, .int .u8 0, .int .u8 0, .int .u8 0, .int .u8 1, .int .i64 2, .int .u32 77, .int .u32 0, .int .i64 T, .int .u32 0, .int .u32 0, .int .u32 0] 27)).drew) w2.heap.size 27 (offL macO 5 yours T 2).cs.toArray from Blk.new _ _ _)
  have HC1' := Lib.hid (show IsC ((w2.alloc (.cells #[.int .i64 2, .int .u32 5, .int .u32 yours, .int .u8 2, .int .u8 0, .int .u8 0, .int .u8 0, .int .u8 0, .int .u8 1, .int .i64 2, .int .u32 77, .int .u32 0, .int .i64 T, .int .u32 0, .int .u32 0, .int .u32 0] 27)).drew) b macO (beginS newS t0 5) from Blk.alloc hC2 _)
  have Bw3 := Lib.hid (show Below w.heap.size w ((w2.alloc (.cells #[.int .i64 2, .int .u32 5, .int .u32 yours, .int .u8 2, .int .u8 0, .int .u8 0, .int .u8 0, .int .u8 0, .int .u8 1, .int .i64 2, .int .u32 77, .int .u32 0, .int .i64 T, .int .u32 0, .int .u32 0, .int .u32 0] 27)).drew) from (al bw2 _).drew)
  have z5 := Blk.lt hC2
  rename_i hHeld
  clear hHeld x0 x1 x2 x3 x4 x5 m1 e1 e2 X2 hM hC2
  go_wp2_with (with_reducible refine wpList_load_blk rfl 27 10 rfl w2.heap.size 0 16 (by kernel_rfl) 27 _ (offL macO 5 yours T 2).cs O1'.out (by kernel_rfl) _ Try.underlying27 (by kernel_rfl) (by kernel_rfl) ?_)
  have ok1 := begin_ok newS newS_ok t0 5
  refine (hear_1ok b macO _ (offL macO 5 yours T 2) t0 0 _ HC1'.out ok1 h2 (by omega) rfl (show (5 : Int) = 5 % 4294967296 by decide) (m6_self macO) rfl rfl HY.out (show (77 : Int) ≠ 0 by decide)).mono ?_
  rintro e w3 ⟨v, rfl, ho, hC3, hg3⟩
  obtain ⟨q, rfl, hq1, hq⟩ : Msg w3 _ v _ := ho
  have k9q : w3.cell? ⟨q, 9, none⟩ = some (.int .i64 3) := hq.cell 9
  have k11q : w3.cell? ⟨q, 11, none⟩ = some (.int .u32 yours) := hq.cell 11
  have k10q : w3.cell? ⟨q, 10, none⟩ = some (.int .u32 77) := hq.cell 10
  have O3 := Blk.only O1'.out hg3 (by omega)
  have bw4 := Bw3.out.trans (below_only hg3 (by omega) Bw3.out.size)
  have k9 : w3.cell? ⟨w2.heap.size, 9, none⟩ = some (.int .i64 2) := O3.cell 9
  have f9 := O3.frozen 9
  have gs : w3.grownBy (w3.setCell ⟨w2.heap.size, 9, none⟩ (.int .i64 5)) (some w2.heap.size) := only_setCell (p := ⟨w2.heap.size, 9, none⟩) (World.grownBy.refl _ _) (.inl rfl) _
  have O4' := Lib.hid (show Blk (w3.setCell ⟨w2.heap.size, 9, none⟩ (.int .i64 5)) w2.heap.size 27 (offL macO 5 yours T 5).cs.toArray from (O3.set_ 9 _).eq_ (by kernel_rfl))
  have HC4' := Lib.hid (show IsC (w3.setCell ⟨w2.heap.size, 9, none⟩ (.int .i64 5)) b macO (offerS (beginS newS t0 5) (offL macO 5 yours T 2) t0) from Blk.only hC3 gs (by omega))
  have Bw5 := Lib.hid (bw4.trans (below_only gs (by omega) bw4.size))
  clear hg3 O3 bw4 gs O1' HC1' Bw3 hC3 hq
  go_wp2_with (with_reducible refine wpList_load_blk rfl 27 10 rfl w2.heap.size 0 16 (by kernel_rfl) 27 _ (offL macO 5 yours T 5).cs O4'.out (by kernel_rfl) _ Try.underlying27 (by kernel_rfl) (by kernel_rfl) ?_)
  have ok2 := offer_ok _ ok1 (offL macO 5 yours T 2) t0
  refine (hear_2b b macO _ (offL macO 5 yours T 5) (t0 + 3) 0 _ HC4'.out ok2 (by omega) (by omega) rfl (show (5 : Int) = 5 % 4294967296 by decide) (m6_self macO) rfl rfl rfl).mono ?_
  rintro e w5 ⟨v, rfl, hv, hC5, hg5⟩
  obtain rfl : v = .slice none 0 0 := hv
  have bw6 := Bw5.out.trans (below_only hg5 (by omega) Bw5.out.size)
  have hC6 : IsC w5 b macO (ov yours T (t0 + 3) 3 (t0 + 3 + 5 * T)) := by
    have := bind_ov yours T t0 (t0 + 3) h0 (by omega)
    rw [← this]; exact hC5
  clear O4' HC4' Bw5 hg5 hC5 k9 f9 k9q k10q k11q hq1
  have zb : w.heap.size ≤ b := by omega
  clear z1 hlt z3 z5 hg hb ok1 ok2
  go_wp2
  go_loopw [12, 13] (fun av tv wr => ∃ t a : Int, av = .int .i64 a ∧ tv = .int .i64 t ∧ t0 + 3 ≤ t ∧ 0 ≤ a ∧ a ≤ t - (t0 + 3) ∧ Below w.heap.size w wr ∧
    ((∃ st nxt : Int, t ≤ t0 + 3 + 10 * T ∧ 3 ≤ st ∧ st ≤ 5 ∧ (st = 3 → nxt = t0 + 3 + 5 * T ∧ t ≤ nxt) ∧ (st ≠ 3 → 1 ≤ a ∧ t0 + 3 + 5 * T < t) ∧ IsC wr b macO (ov yours T (t0 + 3) st nxt)) ∨
     (∃ s : St, t = t0 + 3 + 10 * T + 1 ∧ 1 ≤ a ∧ Hid (s.st = 1) ∧ IsC wr b macO s))) (fun _ tv _ => (t0 + 3 + 10 * T + 1 - intOf tv).toNat)
  case atStart => exact ⟨t0 + 3, 0, rfl, rfl, by omega, by omega, by omega, bw6, .inl ⟨3, t0 + 3 + 5 * T, by omega, by omega, by omega, fun _ => ⟨rfl, by omega⟩, fun h => absurd rfl h, hC6⟩⟩
  case round =>
    obtain ⟨t, a, rfl, rfl, t1, a0, a1, bw3, hcase⟩ := hrel
    clear bw6 hC6
    rcases hcase with ⟨st, nxt, tl, s0, s1, hs3, hs4, C3⟩ | ⟨s, te, a2, hs, C3⟩
    · have HS3 := Lib.hid hs3; clear hs3
      have HS4 := Lib.hid hs4; clear hs4
      have hok := ov_ok yours T (t0 + 3) st nxt h0 (by omega) (by omega) (by omega) s0 s1
      by_cases hover : t0 + 3 + 10 * T ≤ t
      · obtain ⟨s', hs', HD⟩ := ov_over yours T (t0 + 3) st nxt t s0 hover
        have HS' := Lib.hid hs'; clear hs'
        have ha : 1 ≤ a := by
          by_cases h : st = 3
          · have := HS3.out h; omega
          · exact (HS4.out h).1
        have qo : decide (t0 + 3 + 10 * T ≤ t) = true := by simpa using hover
        go_wp2_with fail
        refine (tickC b macO _ t 6 _ C3 hok (by omega) (by omega)).mono ?_
        rintro e w3 hd
        rw [HD] at hd
        clear HD
        obtain ⟨v, rfl, hv, C4, g4⟩ := hd
        obtain ⟨q, rfl, hq, hM⟩ : Msg w3 _ v _ := hv
        have bw4 := bw3.trans (below_only g4 zb bw3.size)
        clear C3 bw3 g4 hq
        go_wp2_with fail
        refine (hasMC b macO _ _ C4).mono ?_
        rintro e w5 ⟨rfl, hb5⟩
        rw [show decide (3 ≤ s'.st) = false by rw [HS'.out]; rfl]
        generalize leaseV s' = lv
        have M5 := hM.nx hb5
        have C5 := Lib.hid (Blk.alloc (IsC.nx C4 hb5) (.cells #[.int .i64 0, .int .u32 0, .int .u32 0, .int .u8 0, .int .u8 0, .int .u8 0, .int .u8 0, .int .u8 0, .int .u8 0, .int .i64 0, .int .u32 0, .int .u32 0, .int .i64 0, .int .u32 0, .int .u32 0, .int .u32 0] 27))
        have Z5 := Lib.hid (show Blk (w5.alloc (.cells #[.int .i64 0, .int .u32 0, .int .u32 0, .int .u8 0, .int .u8 0, .int .u8 0, .int .u8 0, .int .u8 0, .int .u8 0, .int .i64 0, .int .u32 0, .int .u32 0, .int .i64 0, .int .u32 0, .int .u32 0, .int .u32 0] 27)) w5.heap.size 27 zeroL.cs.toArray from Blk.new _ _ _)
        have Bw5 := Lib.hid (al (nx bw4 hb5) (.cells #[.int .i64 0, .int .u32 0, .int .u32 0, .int .u8 0, .int .u8 0, .int .u8 0, .int .u8 0, .int .u8 0, .int .u8 0, .int .i64 0, .int .u32 0, .int .u32 0, .int .i64 0, .int .u32 0, .int .u32 0, .int .u32 0] 27))
        have z5 := Blk.lt (IsC.nx C4 hb5)
        have z6 := (nx bw4 hb5).size
        have M6 := Lib.hid (M5.alloc (.cells #[.int .i64 0, .int .u32 0, .int .u32 0, .int .u8 0, .int .u8 0, .int .u8 0, .int .u8 0, .int .u8 0, .int .u8 0, .int .i64 0, .int .u32 0, .int .u32 0, .int .i64 0, .int .u32 0, .int .u32 0, .int .u32 0] 27))
        have z7 := Blk.lt M5
        clear M5 hM
        clear C4 bw4 hb5
        go_wp2_with ((with_reducible refine wpList_store_blk rfl 27 15 109 rfl w5.heap.size 0 lv.cs (by kernel_rfl) (by kernel_rfl) 27 zeroL.cs Z5.out (by rw [Ls.len, Ls.len]; decide) (by kernel_rfl) lv.one ?_); intro w6 hB6 g6; have M7 := Blk.only M6.out g6 (by omega); have d9 : w6.cell? ⟨q, 9, none⟩ = some (.int .i64 1) := M7.cell 9; clear M7; have C6 := Lib.hid (Blk.only C5.out g6 (by omega)); have bw6 := Lib.hid (Bw5.out.trans (below_only g6 (by omega) Bw5.out.size)); clear g6 hB6)
        go_loop [12, 18] (fun av i => av = .int .i64 a ∧ (i = .int .i64 0 ∨ i = .int .i64 1)) (fun _ i => (1 - intOf i).toNat)
        case atStart => exact ⟨rfl, .inl rfl⟩
        case round =>
          obtain ⟨rfl, rfl | rfl⟩ := hrel
          · go_wp2
            go_round
            case rel => exact ⟨rfl, .inr rfl⟩
            case measure => simp [intOf]
          · go_wp2
            go_roundw
            case rel => exact ⟨t + 1, a, rfl, by go_num, by omega, a0, by omega, bw6.out, .inr ⟨s', by omega, ha, HS'.out, C6.out⟩⟩
            case measure => simp [intOf]; omega
      · have qo : decide (t0 + 3 + 10 * T ≤ t) = false := by simpa using hover
        by_cases hnx : t < nxt
        · have HD := ov_early yours T (t0 + 3) st nxt t (by omega) hnx
          go_wp2_with fail
          refine (tickC b macO _ t 6 _ C3 hok (by omega) (by omega)).mono ?_
          rintro e w3 hd
          rw [HD] at hd
          clear HD
          obtain ⟨v, rfl, hv, C4, g4⟩ := hd
          obtain rfl : v = .slice none 0 0 := hv
          have bw4 := bw3.trans (below_only g4 zb bw3.size)
          clear C3 bw3 g4
          go_wp2_with fail
          refine (hasMC b macO _ _ C4).mono ?_
          rintro e w5 ⟨rfl, hb5⟩
          rw [show decide (3 ≤ (ov yours T (t0 + 3) st nxt).st) = true from (by simpa using s0 : decide (3 ≤ st) = true), show leaseV (ov yours T (t0 + 3) st nxt) = offL macO 5 yours T 5 from if_pos s0]
          have C5 := Lib.hid (Blk.alloc (IsC.nx C4 hb5) (.cells #[.int .i64 0, .int .u32 0, .int .u32 0, .int .u8 0, .int .u8 0, .int .u8 0, .int .u8 0, .int .u8 0, .int .u8 0, .int .i64 0, .int .u32 0, .int .u32 0, .int .i64 0, .int .u32 0, .int .u32 0, .int .u32 0] 27))
          have Z5 := Lib.hid (show Blk (w5.alloc (.cells #[.int .i64 0, .int .u32 0, .int .u32 0, .int .u8 0, .int .u8 0, .int .u8 0, .int .u8 0, .int .u8 0, .int .u8 0, .int .i64 0, .int .u32 0, .int .u32 0, .int .i64 0, .int .u32 0, .int .u32 0, .int .u32 0] 27)) w5.heap.size 27 zeroL.cs.toArray from Blk.new _ _ _)
          have Bw5 := Lib.hid (al (nx bw4 hb5) (.cells #[.int .i64 0, .int .u32 0, .int .u32 0, .int .u8 0, .int .u8 0, .int .u8 0, .int .u8 0, .int .u8 0, .int .u8 0, .int .i64 0, .int .u32 0, .int .u32 0, .int .i64 0, .int .u32 0, .int .u32 0, .int .u32 0] 27))
          have z5 := Blk.lt (IsC.nx C4 hb5)
          have z6 := (nx bw4 hb5).size
          clear C4 bw4 hb5
          go_wp2_with ((with_reducible refine wpList_store_blk rfl 27 15 109 rfl w5.heap.size 0 (offL macO 5 yours T 5).cs (by kernel_rfl) (by kernel_rfl) 27 zeroL.cs Z5.out (by rw [Ls.len, Ls.len]; decide) (by kernel_rfl) (offL macO 5 yours T 5).one ?_); intro w6 hB6 g6; have d2 : w6.cell? ⟨w5.heap.size, 2, none⟩ = some (.int .u32 yours) := hB6.cell 2; have C6 := Lib.hid (Blk.only C5.out g6 (by omega)); have bw6 := Lib.hid (Bw5.out.trans (below_only g6 (by omega) Bw5.out.size)); clear g6 hB6)
          go_loop [12, 18] (fun av i => av = .int .i64 a ∧ i = .int .i64 0) (fun _ _ => 0)
          case atStart => exact ⟨rfl, rfl⟩
          case round =>
            obtain ⟨rfl, rfl⟩ := hrel
            go_wp2
            go_roundw
            case rel => exact ⟨t + 1, a, rfl, by go_num, by omega, a0, by omega, bw6.out, .inl ⟨st, nxt, by omega, s0, s1, fun h => ⟨(HS3.out h).1, by omega⟩, fun h => ⟨(HS4.out h).1, by have := (HS4.out h).2; omega⟩, C6.out⟩⟩
            case measure => simp [intOf]; omega
        · obtain ⟨st', u0, u1, HD⟩ := ov_due yours T (t0 + 3) st nxt t s0 (by omega) (by omega)
          have u2 := u1 s1
          clear u1
          have h5 : t0 + 3 + 5 * T ≤ t := by
            by_cases h : st = 3
            · have := HS3.out h; omega
            · have := (HS4.out h).2; omega
          have q5 : decide (t < t0 + 3 + 5 * T) = false := by simpa using h5
          go_wp2_with fail
          refine (tickC b macO _ t 6 _ C3 hok (by omega) (by omega)).mono ?_
          rintro e w3 hd
          rw [HD] at hd
          clear HD
          obtain ⟨v, rfl, hv, C4, g4⟩ := hd
          obtain ⟨q, rfl, hq, hM⟩ : Msg w3 _ v _ := hv
          have bw4 := bw3.trans (below_only g4 zb bw3.size)
          clear C3 bw3 g4 hq
          go_wp2_with fail
          refine (hasMC b macO _ _ C4).mono ?_
          rintro e w5 ⟨rfl, hb5⟩
          have s3 : 3 ≤ st' := by omega
          rw [show decide (3 ≤ (ov yours T (t0 + 3) st' (t + 60)).st) = true from (by simpa using s3 : decide (3 ≤ st') = true), show leaseV (ov yours T (t0 + 3) st' (t + 60)) = offL macO 5 yours T 5 from if_pos (by show 3 ≤ st'; omega)]
          have M5 := hM.nx hb5
          have C5 := Lib.hid (Blk.alloc (IsC.nx C4 hb5) (.cells #[.int .i64 0, .int .u32 0, .int .u32 0, .int .u8 0, .int .u8 0, .int .u8 0, .int .u8 0, .int .u8 0, .int .u8 0, .int .i64 0, .int .u32 0, .int .u32 0, .int .i64 0, .int .u32 0, .int .u32 0, .int .u32 0] 27))
          have Z5 := Lib.hid (show Blk (w5.alloc (.cells #[.int .i64 0, .int .u32 0, .int .u32 0, .int .u8 0, .int .u8 0, .int .u8 0, .int .u8 0, .int .u8 0, .int .u8 0, .int .i64 0, .int .u32 0, .int .u32 0, .int .i64 0, .int .u32 0, .int .u32 0, .int .u32 0] 27)) w5.heap.size 27 zeroL.cs.toArray from Blk.new _ _ _)
          have Bw5 := Lib.hid (al (nx bw4 hb5) (.cells #[.int .i64 0, .int .u32 0, .int .u32 0, .int .u8 0, .int .u8 0, .int .u8 0, .int .u8 0, .int .u8 0, .int .u8 0, .int .i64 0, .int .u32 0, .int .u32 0, .int .i64 0, .int .u32 0, .int .u32 0, .int .u32 0] 27))
          have z5 := Blk.lt (IsC.nx C4 hb5)
          have z6 := (nx bw4 hb5).size
          have M6 := Lib.hid (M5.alloc (.cells #[.int .i64 0, .int .u32 0, .int .u32 0, .int .u8 0, .int .u8 0, .int .u8 0, .int .u8 0, .int .u8 0, .int .u8 0, .int .i64 0, .int .u32 0, .int .u32 0, .int .i64 0, .int .u32 0, .int .u32 0, .int .u32 0] 27))
          have z7 := Blk.lt M5
          clear M5 hM
          clear C4 bw4 hb5
          go_wp2_with ((with_reducible refine wpList_store_blk rfl 27 15 109 rfl w5.heap.size 0 (offL macO 5 yours T 5).cs (by kernel_rfl) (by kernel_rfl) 27 zeroL.cs Z5.out (by rw [Ls.len, Ls.len]; decide) (by kernel_rfl) (offL macO 5 yours T 5).one ?_); intro w6 hB6 g6; have d2 : w6.cell? ⟨w5.heap.size, 2, none⟩ = some (.int .u32 yours) := hB6.cell 2; have M7 := Blk.only M6.out g6 (by omega); have d9 : w6.cell? ⟨q, 9, none⟩ = some (.int .i64 3) := M7.cell 9; clear M7; have C6 := Lib.hid (Blk.only C5.out g6 (by omega)); have bw6 := Lib.hid (Bw5.out.trans (below_only g6 (by omega) Bw5.out.size)); clear g6 hB6)
          go_loop [12, 18] (fun av i => (i = .int .i64 0 ∧ av = .int .i64 a) ∨ (i = .int .i64 1 ∧ av = .int .i64 (a + 1))) (fun _ i => (1 - intOf i).toNat)
          case atStart => exact .inl ⟨rfl, rfl⟩
          case round =>
            rcases hrel with ⟨rfl, rfl⟩ | ⟨rfl, rfl⟩
            · go_wp2
              go_round
              case rel => exact .inr ⟨rfl, rfl⟩
              case measure => simp [intOf]
            · go_wp2
              go_roundw
              case rel => exact ⟨t + 1, a + 1, rfl, by go_num, by omega, by omega, by omega, bw6.out, .inl ⟨st', t + 60, by omega, by omega, u2, fun h => absurd h (by omega), fun _ => ⟨by omega, by omega⟩, C6.out⟩⟩
              case measure => simp [intOf]; omega
    · go_wp2_with fail
      refine (stateC b macO _ _ C3).mono ?_
      rintro e w4 ⟨rfl, rfl⟩
      rw [hs.out]
      go_wp2_with fail
      refine (known _).mono ?_
      rintro e w8 ⟨rfl, hb8⟩
      go_wp2
      go_ret
      exact ⟨rfl, nx bw3 hb8⟩
theorem leaseOver_walk (yours T t0 : Int) (w : World) :
    Calls Try.prog 4 #[.int .u32 yours, .int .i64 T, .int .i64 t0] w fun e w' => e = .returned (.bool true) ∧ Below w.heap.size w w' := by
  by_cases hh : yours ≠ 0 ∧ 1 ≤ T ∧ T ≤ 400 ∧ 0 ≤ t0 ∧ t0 ≤ 1000000
  · exact leaseOver_in yours T t0 w hh.1 hh.2.1 hh.2.2.1 hh.2.2.2.1 hh.2.2.2.2
  · exact leaseOver_out yours T t0 w hh

set_option maxRecDepth 100000 in
theorem leaseOver_lifted (os : Os) (started : os.Started) (H : Type) (enc : TypeId × Value → H) :
    ReturnsInHanded {} Try.checked os 4 .any (Rows.leaseOverSpec.pre6 enc Try.prog Try.f4 Rows.leaseOverRow.domain false) (Rows.leaseOverSpec.post enc Try.prog Try.f4 false true false false) :=
  law_lift started (by kernel_rfl) Try.func4
    (ChangeSpec.witness6 (enc := enc) (C := Try.checked) false ⟨#[], #[.int .u32 0, .int .i64 0, .int .i64 0], []⟩ 8 (by kernel_rfl) (by kernel_rfl) (by kernel_rfl) (by kernel_rfl))
    rfl rfl Try.underlying4 (by kernel_rfl) (fun ds h => match ds, h with | [_, _, _], _ => rfl)
    (fun W base args ds p hval hA hsz => by
      rw [Try.params4] at hA hval
      obtain ⟨v0, v1, v2, d0, d1, d2, p0, p1, p2, rfl, rfl, rfl, h0, h1, h2⟩ := trodAll_three hA
      obtain ⟨n, rfl, _, _, _⟩ := open_int Try.underlying23 (hval 0 23 v0 rfl rfl) h0
      obtain ⟨n1, rfl, _, _, _⟩ := open_int Try.underlying3 (hval 1 3 v1 rfl rfl) h1
      obtain ⟨n2, rfl, _, _, _⟩ := open_int Try.underlying3 (hval 2 3 v2 rfl rfl) h2
      exact leaseOver_walk n n1 n2 W)

theorem leaseOver_holds : Rows.LeaseOverSaid :=
  OpenClaim.holds_of_wide 4 Try.f4 rfl rfl rfl rfl rfl rfl rfl ⟨rfl, rfl, rfl, rfl, rfl⟩ rfl rfl rfl rfl rfl (by kernel_rfl) Try.func4 (by kernel_rfl)
    (of_decide_eq_true (by kernel_rfl)) (by unfold Func.isWrapper; rw [if_neg (of_decide_eq_false (by kernel_rfl))]; exact ⟨rfl, rfl⟩)
    (fun os started H enc _ => leaseOver_lifted os started H enc)
end Go.Proofs.Ytgdlghieifadhaa
