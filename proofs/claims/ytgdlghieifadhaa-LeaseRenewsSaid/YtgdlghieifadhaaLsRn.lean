/-
  A lease whose server answers each Request is never lost. No conditions.
-/
import Derived.Test.YtgdlghieifadhaaLsFr
set_option linter.unusedVariables false
namespace Go.Proofs.Ytgdlghieifadhaa
open Go.ChangeShapes Go.WideShapes Go.ChangeAt Go.RowKit

def rb (yours T f : Int) : St := ⟨3, 5 % 4294967296, f + 5 * T, 1, offL mac2 5 yours T 2, offL mac2 5 yours T 5, f⟩
theorem bl (yours T : Int) (h0 : 1 ≤ T) (h1 : T ≤ 1000000) : bindL (offL mac2 5 yours T 5) 77 = offL mac2 5 yours T 5 := by
  have e : min (if T < 1 then 3600 else T) 2147483647 = T := by rw [if_neg (by omega)]; omega
  show Ls.mk _ _ _ _ _ (if (77 : Int) = 0 then 77 else 77) _ (min (if T < 1 then 3600 else T) 2147483647) _ _ _ = _
  rw [e]; rfl
theorem bound_rb (yours T : Int) (h0 : 1 ≤ T) (h1 : T ≤ 1000000) : boundS mac2 yours T = rb yours T 2 := by
  show St.mk 3 _ (2 + 10 * (bindL (offL mac2 5 yours T 5) 77).time / 2) 1 _ (bindL (offL mac2 5 yours T 5) 77) 2 = _
  rw [bl yours T h0 h1]
  show St.mk 3 _ (2 + 10 * T / 2) 1 _ _ 2 = _
  rw [show 2 + 10 * T / 2 = 2 + 5 * T by omega]; rfl
theorem rb_ok (yours T f : Int) (h0 : 1 ≤ T) (h1 : T ≤ 1000000) (f0 : 0 ≤ f) (f1 : f ≤ 1000000) : (rb yours T f).ok :=
  ⟨by show (0 : Int) ≤ 3; decide, by show (3 : Int) ≤ 5; decide, by show 0 ≤ T; omega, by show T ≤ 2147483647; omega, f0, by show f ≤ 1152921504606846976; omega, by show (0 : Int) ≤ 1; decide, by show (1 : Int) ≤ 4; decide⟩
theorem rb_early (yours T f t : Int) (h0 : 1 ≤ T) (ht : t < f + 5 * T) : tickR mac2 (rb yours T f) t 0 = (rb yours T f, none) := by
  unfold tickR
  rw [if_neg (fun h => by have := h.2; have h2 : f + 10 * T ≤ t := this; omega), if_pos (.inr ht)]
def rn (yours T f t : Int) : St := { rb yours T f with st := 4, next := t + 60 }
theorem rb_due (yours T f t : Int) (h0 : 1 ≤ T) (ht : t = f + 5 * T) : tickR mac2 (rb yours T f) t 0 = (rn yours T f t, some (says mac2 5 3 yours 0)) := by
  unfold tickR
  rw [if_neg (fun h => by have := h.2; have h2 : f + 10 * T ≤ t := this; omega), if_neg (by intro h; rcases h with h | h; exact absurd (show (3 : Int) = 0 from h) (by decide); have h2 : t < f + 5 * T := h; omega), if_neg (by show ¬ (3 : Int) < 3; decide)]
  rfl
theorem rn_ok (yours T f t : Int) (h0 : 1 ≤ T) (h1 : T ≤ 1000000) (f0 : 0 ≤ f) (f1 : f ≤ 1000000) : (rn yours T f t).ok :=
  ⟨by show (0 : Int) ≤ 4; decide, by show (4 : Int) ≤ 5; decide, by show 0 ≤ T; omega, by show T ≤ 2147483647; omega, f0, by show f ≤ 1152921504606846976; omega, by show (0 : Int) ≤ 1; decide, by show (1 : Int) ≤ 4; decide⟩
theorem rn_bind (yours T f t : Int) (h0 : 1 ≤ T) (h1 : T ≤ 1000000) : bindS (rn yours T f t) (offL mac2 5 yours T 5) (rn yours T f t).lease.server t = rb yours T t := by
  show St.mk 3 _ (t + 10 * (bindL (offL mac2 5 yours T 5) 77).time / 2) 1 _ (bindL (offL mac2 5 yours T 5) 77) t = _
  rw [bl yours T h0 h1]
  show St.mk 3 _ (t + 10 * T / 2) 1 _ _ t = _
  rw [show t + 10 * T / 2 = t + 5 * T by omega]; rfl
set_option maxRecDepth 100000 in
set_option maxHeartbeats 3200000 in
theorem leaseRenews_walk (yours T rounds : Int) (w : World) :
    Calls Try.prog 5 #[.int .u32 yours, .int .i64 T, .int .i64 rounds] w fun e w' => e = .returned (.bool true) ∧ Below w.heap.size w w' := by
  by_cases hh : yours ≠ 0 ∧ 14 ≤ T ∧ T ≤ 100 ∧ 0 ≤ rounds ∧ rounds ≤ 6
  rotate_left
  · have K : Calls Try.prog 5 #[.int .u32 yours, .int .i64 T, .int .i64 rounds] w fun e w' => e = .returned (.bool true) ∧ Below w.heap.size w w' := by
      by_cases hy : yours = 0
      · have q0 : ((yours : Int) == 0) = true := by rw [beq_iff_eq]; exact hy
        clear hy hh
        go_enter Try.func5, Try.ntmps5
        go_wp2_with fail
        refine (known _).mono ?_
        rintro e w5 ⟨rfl, hb5⟩
        go_wp2
        go_ret
        exact ⟨rfl, hb5⟩
      have q0 : ((yours : Int) == 0) = false := by rw [beq_eq_false_iff_ne]; exact hy
      have hc : T < 14 ∨ (14 ≤ T ∧ 100 < T) ∨ (14 ≤ T ∧ T ≤ 100 ∧ rounds < 0) ∨ (14 ≤ T ∧ T ≤ 100 ∧ 0 ≤ rounds ∧ 6 < rounds) := by
        by_cases a : T < 14
        · exact .inl a
        · by_cases a2 : 100 < T
          · exact .inr (.inl ⟨by omega, a2⟩)
          · by_cases a3 : rounds < 0
            · exact .inr (.inr (.inl ⟨by omega, by omega, a3⟩))
            · exact .inr (.inr (.inr ⟨by omega, by omega, by omega, Decidable.byContradiction fun h => hh ⟨hy, by omega, by omega, by omega, by omega⟩⟩))
      clear hh hy
      rcases hc with hc | ⟨c1, hc⟩ | ⟨c1, c2, hc⟩ | ⟨c1, c2, c3, hc⟩
      all_goals
        go_enter Try.func5, Try.ntmps5
        go_wp2_with fail
        refine (known _).mono ?_
        rintro e w5 ⟨rfl, hb5⟩
        go_wp2
        go_ret
        exact ⟨rfl, hb5⟩
    exact K
  obtain ⟨hy, h0, h1, h2, h3⟩ := hh
  have q0 : ((yours : Int) == 0) = false := by rw [beq_eq_false_iff_ne]; exact hy
  have HY := Lib.hid hy; clear hy
  go_enter Try.func5, Try.ntmps5
  go_wp2_with fail
  refine (boundC mac2 yours T _ HY.out).mono ?_
  rintro e w1 ⟨b, rfl, hb, hC, hb1⟩
  rw [bound_rb yours T (by omega) (by omega)] at hC
  have Z1 := Lib.hid (show Blk (w1.alloc (.cells #[.int .i64 0, .int .u32 0, .int .u32 0, .int .u8 0, .int .u8 0, .int .u8 0, .int .u8 0, .int .u8 0, .int .u8 0, .int .i64 0, .int .u32 0, .int .u32 0, .int .i64 0, .int .u32 0, .int .u32 0, .int .u32 0] 27)) w1.heap.size 27 zeroL.cs.toArray from Blk.new _ _ _)
  have C1 := Lib.hid (Blk.alloc hC (.cells #[.int .i64 0, .int .u32 0, .int .u32 0, .int .u8 0, .int .u8 0, .int .u8 0, .int .u8 0, .int .u8 0, .int .u8 0, .int .i64 0, .int .u32 0, .int .u32 0, .int .i64 0, .int .u32 0, .int .u32 0, .int .u32 0] 27))
  have Bw1 := Lib.hid (al hb1 (.cells #[.int .i64 0, .int .u32 0, .int .u32 0, .int .u8 0, .int .u8 0, .int .u8 0, .int .u8 0, .int .u8 0, .int .u8 0, .int .i64 0, .int .u32 0, .int .u32 0, .int .i64 0, .int .u32 0, .int .u32 0, .int .u32 0] 27))
  have z0 := Blk.lt hC
  have z00 := hb1.size
  clear hC hb1
  obtain ⟨o, ho⟩ : ∃ o, o = w1.heap.size := ⟨_, rfl⟩
  have HO := Lib.hid ho
  go_wp2_with ((with_reducible refine wpList_store_blk rfl 27 8 40 rfl w1.heap.size 0 (offL mac2 5 yours T 5).cs (by kernel_rfl) (by kernel_rfl) 27 zeroL.cs Z1.out (by rw [Ls.len, Ls.len]; decide) (by kernel_rfl) (offL mac2 5 yours T 5).one ?_); intro w2 hB2 g2; have C2 := Blk.only C1.out g2 (by omega); have O2 : Blk w2 w1.heap.size 27 (offL mac2 5 yours T 5).cs.toArray := hB2.eq_ (by kernel_rfl); have bw2 := Bw1.out.trans (below_only g2 (by omega) Bw1.out.size); clear hB2 g2 C1 Z1 Bw1)
  have zo : b < w1.heap.size := z0
  have zw : w.heap.size ≤ w1.heap.size := z00
  clear z0 z00 ho HO
  generalize w1.heap.size = o at *
  go_loopw [10] (fun tv wr => ∃ t f : Int, tv = .int .i64 t ∧ 2 ≤ f ∧ f < t ∧ t ≤ f + 5 * T ∧ (t = 3 ∨ t ≤ rounds * 10 * T) ∧ IsC wr b mac2 (rb yours T f) ∧ Blk wr o 27 (offL mac2 5 yours T 5).cs.toArray ∧ Below w.heap.size w wr) (fun tv _ => (rounds * 10 * T - intOf tv).toNat)
  case atStart => exact ⟨3, 2, rfl, by omega, by omega, by omega, .inl rfl, C2, O2, bw2⟩
  case round =>
    obtain ⟨t, f, rfl, f2, ft, tf, tn, C3, O3, bw3⟩ := hrel
    clear C2 O2 bw2
    have hN : rounds * 10 * T ≤ 6000 := by
      have : rounds * T ≤ 6 * 100 := Int.mul_le_mul h3 h1 (by omega) (by omega)
      have e : rounds * 10 * T = 10 * (rounds * T) := by rw [Int.mul_right_comm, Int.mul_comm]
      omega
    have hN0 : 0 ≤ rounds * T := Int.mul_nonneg h2 (by omega)
    have hN1 : 0 ≤ rounds * 10 * T := by
      have e : rounds * 10 * T = 10 * (rounds * T) := by rw [Int.mul_right_comm, Int.mul_comm]
      omega
    obtain ⟨N, hnn⟩ : ∃ N, rounds * 10 * T = N := ⟨_, rfl⟩
    have w10 : wrap64 (rounds * 10 * T) = N := by rw [← hnn]; exact IntWalk.wrap64_in _ (by omega)
    rw [hnn] at tn hN hN1
    have HNN := Lib.hid hnn; clear hnn hN0
    have hok := rb_ok yours T f (by omega) (by omega) (by omega) (by omega)
    have zo3 := Blk.lt O3
    by_cases hlt : t < N
    · by_cases hdue : t < f + 5 * T
      · go_wp2_with fail
        refine (tickC b mac2 _ t 0 _ C3 hok (by omega) (by omega)).mono ?_
        rintro e w3 hd
        rw [rb_early yours T f t (by omega) hdue] at hd
        obtain ⟨v, rfl, hv, C4, g4⟩ := hd
        obtain rfl : v = .slice none 0 0 := hv
        have O4 := Blk.only O3 g4 (by omega)
        have bw4 := bw3.trans (below_only g4 hb bw3.size)
        clear C3 O3 bw3 g4
        go_wp2
        go_loopw [12] (fun i wx => i = .int .i64 0 ∧ wx = w3) (fun _ _ => 0)
        case atStart => exact ⟨rfl, rfl⟩
        case round =>
          obtain ⟨rfl, rfl⟩ := hrel
          go_wp2_with fail
          refine (hasMC b mac2 _ _ C4).mono ?_
          rintro e w5 ⟨rfl, hb5⟩
          rw [show leaseV (rb yours T f) = offL mac2 5 yours T 5 from rfl, show decide (3 ≤ (rb yours T f).st) = true from rfl]
          have C5 := Lib.hid (Blk.alloc (IsC.nx C4 hb5) (.cells #[.int .i64 0, .int .u32 0, .int .u32 0, .int .u8 0, .int .u8 0, .int .u8 0, .int .u8 0, .int .u8 0, .int .u8 0, .int .i64 0, .int .u32 0, .int .u32 0, .int .i64 0, .int .u32 0, .int .u32 0, .int .u32 0] 27))
          have O5 := Lib.hid ((O4.nx hb5).alloc (.cells #[.int .i64 0, .int .u32 0, .int .u32 0, .int .u8 0, .int .u8 0, .int .u8 0, .int .u8 0, .int .u8 0, .int .u8 0, .int .i64 0, .int .u32 0, .int .u32 0, .int .i64 0, .int .u32 0, .int .u32 0, .int .u32 0] 27))
          have Z5 := Lib.hid (show Blk (w5.alloc (.cells #[.int .i64 0, .int .u32 0, .int .u32 0, .int .u8 0, .int .u8 0, .int .u8 0, .int .u8 0, .int .u8 0, .int .u8 0, .int .i64 0, .int .u32 0, .int .u32 0, .int .i64 0, .int .u32 0, .int .u32 0, .int .u32 0] 27)) w5.heap.size 27 zeroL.cs.toArray from Blk.new _ _ _)
          have Bw5 := Lib.hid (al (nx bw4 hb5) (.cells #[.int .i64 0, .int .u32 0, .int .u32 0, .int .u8 0, .int .u8 0, .int .u8 0, .int .u8 0, .int .u8 0, .int .u8 0, .int .i64 0, .int .u32 0, .int .u32 0, .int .i64 0, .int .u32 0, .int .u32 0, .int .u32 0] 27))
          have z5 := Blk.lt (O4.nx hb5)
          have z6 := (nx bw4 hb5).size
          clear C4 O4 bw4 hb5
          go_wp2_with ((with_reducible refine wpList_store_blk rfl 27 13 83 rfl w5.heap.size 0 (offL mac2 5 yours T 5).cs (by kernel_rfl) (by kernel_rfl) 27 zeroL.cs Z5.out (by rw [Ls.len, Ls.len]; decide) (by kernel_rfl) (offL mac2 5 yours T 5).one ?_); intro w6 hB6 g6; have d2 : w6.cell? ⟨w5.heap.size, 2, none⟩ = some (.int .u32 yours) := hB6.cell 2; have C6 := Lib.hid (Blk.only C5.out g6 (by omega)); have O6 := Lib.hid (Blk.only O5.out g6 (by omega)); have bw6 := Lib.hid (Bw5.out.trans (below_only g6 (by omega) Bw5.out.size)); have qq : ((yours : Int) != yours) = false := by simp)
          go_roundw
          case rel => exact ⟨t + 1, f, by go_num, by omega, by omega, by omega, .inr (by have := HNN.out; omega), C6.out, O6.out, bw6.out⟩
          case measure => simp [intOf]; have := HNN.out; omega
      · have he : t = f + 5 * T := by omega
        have HD := rb_due yours T f t (by omega) he
        have HE := Lib.hid he
        clear he
        go_wp2_with fail
        refine (tickC b mac2 _ t 0 _ C3 hok (by omega) (by omega)).mono ?_
        rintro e w3 hd
        rw [HD] at hd
        clear HD
        obtain ⟨v, rfl, hv, C4, g4⟩ := hd
        obtain ⟨q, rfl, hq, hM⟩ : Msg w3 _ v _ := hv
        have O4 := Blk.only O3 g4 (by omega)
        have bw4 := bw3.trans (below_only g4 hb bw3.size)
        have zr := bw3.size
        have zr4 := g4.size
        clear C3 O3 bw3 g4
        have k9 : w3.cell? ⟨q, 9, none⟩ = some (.int .i64 3) := hM.cell 9
        have k11 : w3.cell? ⟨q, 11, none⟩ = some (.int .u32 yours) := hM.cell 11
        have qq : ((yours : Int) != yours) = false := by simp
        go_wp2
        go_loopw [12] (fun i wx => (i = .int .i64 0 ∧ wx = w3) ∨ (i = .int .i64 1 ∧ IsC wx b mac2 (rb yours T t) ∧ Blk wx o 27 (offL mac2 5 yours T 5).cs.toArray ∧ Below w.heap.size w wx ∧ w3.heap.size ≤ wx.heap.size)) (fun i _ => (1 - intOf i).toNat)
        case atStart => exact .inl ⟨rfl, rfl⟩
        case round =>
          rcases hrel with ⟨rfl, rfl⟩ | ⟨rfl, C5, O5, bw5, z35⟩
          · go_wp2_with (with_reducible refine wpList_load_blk rfl 27 8 rfl o 0 16 (by kernel_rfl) 27 _ (offL mac2 5 yours T 5).cs O4 (by kernel_rfl) _ Try.underlying27 (by kernel_rfl) (by kernel_rfl) ?_)
            refine (hear_4b b mac2 _ (offL mac2 5 yours T 5) t 0 _ C4 (rn_ok yours T f t (by omega) (by omega) (by omega) (by omega)) (by omega) (by omega) rfl (show (5 : Int) = 5 % 4294967296 by decide) (m6_self mac2) (show (3 : Int) < 4 by decide) rfl rfl).mono ?_
            rintro e w4 ⟨v, rfl, hv, C5, g5⟩
            rw [rn_bind yours T f t (by omega) (by omega)] at C5
            have O5 := Blk.only O4 g5 (by omega)
            have bw5 := bw4.trans (below_only g5 hb bw4.size)
            have z35 := g5.size
            go_wp2
            go_roundw
            case rel => exact .inr ⟨rfl, C5, O5, bw5, z35⟩
            case measure => simp [intOf]
          · clear C4 O4 bw4 hM k9 k11
            have C4 := C5; clear C5
            have O4 := O5; clear O5
            have bw4 := bw5; clear bw5
            go_wp2_with fail
            refine (hasMC b mac2 _ _ C4).mono ?_
            rintro e w5 ⟨rfl, hb5⟩
            rw [show leaseV (rb yours T t) = offL mac2 5 yours T 5 from rfl, show decide (3 ≤ (rb yours T t).st) = true from rfl]
            have C5 := Lib.hid (Blk.alloc (IsC.nx C4 hb5) (.cells #[.int .i64 0, .int .u32 0, .int .u32 0, .int .u8 0, .int .u8 0, .int .u8 0, .int .u8 0, .int .u8 0, .int .u8 0, .int .i64 0, .int .u32 0, .int .u32 0, .int .i64 0, .int .u32 0, .int .u32 0, .int .u32 0] 27))
            have O5 := Lib.hid ((O4.nx hb5).alloc (.cells #[.int .i64 0, .int .u32 0, .int .u32 0, .int .u8 0, .int .u8 0, .int .u8 0, .int .u8 0, .int .u8 0, .int .u8 0, .int .i64 0, .int .u32 0, .int .u32 0, .int .i64 0, .int .u32 0, .int .u32 0, .int .u32 0] 27))
            have Z5 := Lib.hid (show Blk (w5.alloc (.cells #[.int .i64 0, .int .u32 0, .int .u32 0, .int .u8 0, .int .u8 0, .int .u8 0, .int .u8 0, .int .u8 0, .int .u8 0, .int .i64 0, .int .u32 0, .int .u32 0, .int .i64 0, .int .u32 0, .int .u32 0, .int .u32 0] 27)) w5.heap.size 27 zeroL.cs.toArray from Blk.new _ _ _)
            have Bw5 := Lib.hid (al (nx bw4 hb5) (.cells #[.int .i64 0, .int .u32 0, .int .u32 0, .int .u8 0, .int .u8 0, .int .u8 0, .int .u8 0, .int .u8 0, .int .u8 0, .int .i64 0, .int .u32 0, .int .u32 0, .int .i64 0, .int .u32 0, .int .u32 0, .int .u32 0] 27))
            have z5 := Blk.lt (O4.nx hb5)
            have z6 := (nx bw4 hb5).size
            clear C4 O4 bw4 hb5
            go_wp2_with ((with_reducible refine wpList_store_blk rfl 27 13 83 rfl w5.heap.size 0 (offL mac2 5 yours T 5).cs (by kernel_rfl) (by kernel_rfl) 27 zeroL.cs Z5.out (by rw [Ls.len, Ls.len]; decide) (by kernel_rfl) (offL mac2 5 yours T 5).one ?_); intro w6 hB6 g6; have d2 : w6.cell? ⟨w5.heap.size, 2, none⟩ = some (.int .u32 yours) := hB6.cell 2; have C6 := Lib.hid (Blk.only C5.out g6 (by omega)); have O6 := Lib.hid (Blk.only O5.out g6 (by omega)); have bw6 := Lib.hid (Bw5.out.trans (below_only g6 (by omega) Bw5.out.size)); have qq : ((yours : Int) != yours) = false := by simp)
            go_roundw
            case rel => exact ⟨t + 1, t, by go_num, by omega, by omega, by have := HE.out; omega, .inr (by have := HNN.out; omega), C6.out, O6.out, bw6.out⟩
            case measure => simp [intOf]; have := HNN.out; omega
    · go_wp2_with fail
      refine (known _).mono ?_
      rintro e w8 ⟨rfl, hb8⟩
      go_wp2
      go_ret
      exact ⟨rfl, nx bw3 hb8⟩

set_option maxRecDepth 100000 in
theorem leaseRenews_lifted (os : Os) (started : os.Started) (H : Type) (enc : TypeId × Value → H) :
    ReturnsInHanded {} Try.checked os 5 .any (Rows.leaseRenewsSpec.pre6 enc Try.prog Try.f5 Rows.leaseRenewsRow.domain false) (Rows.leaseRenewsSpec.post enc Try.prog Try.f5 false true false false) :=
  law_lift started (by kernel_rfl) Try.func5
    (ChangeSpec.witness6 (enc := enc) (C := Try.checked) false ⟨#[], #[.int .u32 0, .int .i64 0, .int .i64 0], []⟩ 8 (by kernel_rfl) (by kernel_rfl) (by kernel_rfl) (by kernel_rfl))
    rfl rfl Try.underlying4 (by kernel_rfl) (fun ds h => match ds, h with | [_, _, _], _ => rfl)
    (fun W base args ds p hval hA hsz => by
      rw [Try.params5] at hA hval
      obtain ⟨v0, v1, v2, d0, d1, d2, p0, p1, p2, rfl, rfl, rfl, h0, h1, h2⟩ := trodAll_three hA
      obtain ⟨n, rfl, _, _, _⟩ := open_int Try.underlying23 (hval 0 23 v0 rfl rfl) h0
      obtain ⟨n1, rfl, _, _, _⟩ := open_int Try.underlying3 (hval 1 3 v1 rfl rfl) h1
      obtain ⟨n2, rfl, _, _, _⟩ := open_int Try.underlying3 (hval 2 3 v2 rfl rfl) h2
      exact leaseRenews_walk n n1 n2 W)

theorem leaseRenews_holds : Rows.LeaseRenewsSaid :=
  OpenClaim.holds_of_wide 5 Try.f5 rfl rfl rfl rfl rfl rfl rfl ⟨rfl, rfl, rfl, rfl, rfl⟩ rfl rfl rfl rfl rfl (by kernel_rfl) Try.func5 (by kernel_rfl)
    (of_decide_eq_true (by kernel_rfl)) (by unfold Func.isWrapper; rw [if_neg (of_decide_eq_false (by kernel_rfl))]; exact ⟨rfl, rfl⟩)
    (fun os started H enc _ => leaseRenews_lifted os started H enc)
end Go.Proofs.Ytgdlghieifadhaa
