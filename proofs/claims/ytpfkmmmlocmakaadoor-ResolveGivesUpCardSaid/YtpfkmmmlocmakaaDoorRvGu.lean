/-
  ResolveGivesUp: for all servers and every tick the law 'a question that nobody answers is asked AskTimes times, of one server behind the other, and then told as ErrTimeout' returns true.
-/
import Derived.Test.YtpfkmmmlocmakaaDoorRvTk
import Derived.Test.YtpfkmmmlocmakaaDoorRvZ
set_option linter.unusedVariables false
namespace Go.Proofs.YtpfkmmmlocmakaaDoor
open Go.RowKit Go.Maps

theorem srv_step (L a : Nat) (h1 : 1 ≤ a) : ((((a - 1) % L : Nat) : Int) + 1) % (L : Int) = ((a % L : Nat) : Int) := by
  have h : ((a - 1) % L + 1) % L = a % L := by rw [Nat.mod_add_mod, Nat.sub_add_cancel h1]
  rw [← h]; push_cast; rfl
-- where the law stands: a times it was asked
structure Gu (w ws : World) (rb : Nat) (sv : List Int) (from_ : Int) (a p : Nat) (DA : Option Addr) : Prop where
  all : ∃ (z : Rz) (g : Nat) (q : Qn), IsRv ws w.heap.size rb z ∧ z.sv = sv ∧ z.qs = [(g, q)] ∧ q.name = ⟨#[97]⟩ ∧ q.server = ((a - 1) % sv.length : Nat) ∧ q.asked = a ∧ q.next = from_ + 50 * a ∧ z.sent = a ∧ z.age = .slice none 0 0
  row : p = 1 → ∃ gd v, DA = some ⟨gd, 0, none⟩ ∧ ws.cell? ⟨gd, 2, none⟩ = some (.int .u32 v) ∧ sv[(a - 1) % sv.length]? = some v
  be : Below w.heap.size w ws
theorem row3 {w : World} {B : Nat} {D : Option Addr} {c : Nat} {d : Fd} (h : w.ownsRow B 39 3 (.slice D 1 c) 1 d.cs) : ∃ gd, D = some ⟨gd, 0, none⟩ ∧ B ≤ gd ∧ (∀ j u, d.cs[j]? = some u → w.cell? ⟨gd, j, none⟩ = some u) := by
  rcases h.2 with ⟨e, h0⟩ | ⟨g, cap, cur, e, hg, hh, h1, h2, h3, h4⟩
  · omega
  · injection e with e1 e2 e3
    refine ⟨g, e1, hg, fun j u hu => ?_⟩
    have hj : j < 3 := (List.getElem?_eq_some_iff.1 hu).1
    rw [Blk.cell (show Blk w g _ cur from hh), ← hu, ← h4, List.getElem?_take_of_lt (by omega), Array.getElem?_toList]
theorem is_a : isN (⟨#[97]⟩ : ByteArray).data.toList = true := by decide +kernel
set_option maxRecDepth 100000 in
set_option maxHeartbeats 1600000 in
theorem givesUp_walk (w : World) (A : Option Addr) (sv : List Int) (c : Nat) (from_ : Int) (hr : Reads w w.heap.size 1 A sv.length (sv.map (Value.int .u32))) (hm : MaxL w) (hpos : 0 < w.heap.size) :
    Calls Tryd.prog 3 #[.slice A sv.length c, .int .i64 from_] w fun e w' => e = .returned (.bool true) ∧ Below w.heap.size w w' := by
  have KN := Lib.hid (knownR w hm hpos)
  by_cases l1 : (sv.length : Int) < 1
  · go_enter Tryd.func3, Tryd.ntmps3
    go_wp2_with fail
    refine KN.out.mono ?_
    rintro e w1 ⟨rfl, b1⟩
    go_wp2
    go_ret
    exact ⟨rfl, b1⟩
  by_cases l3 : (3 : Int) < sv.length
  · go_enter Tryd.func3, Tryd.ntmps3
    go_wp2_with fail
    refine KN.out.mono ?_
    rintro e w1 ⟨rfl, b1⟩
    go_wp2
    go_ret
    exact ⟨rfl, b1⟩
  by_cases f0 : from_ < 0
  · go_enter Tryd.func3, Tryd.ntmps3
    go_wp2_with fail
    refine KN.out.mono ?_
    rintro e w1 ⟨rfl, b1⟩
    go_wp2
    go_ret
    exact ⟨rfl, b1⟩
  by_cases f1 : 1099511626776 < from_
  · go_enter Tryd.func3, Tryd.ntmps3
    go_wp2_with fail
    refine KN.out.mono ?_
    rintro e w1 ⟨rfl, b1⟩
    go_wp2
    go_ret
    exact ⟨rfl, b1⟩
  clear KN
  have HN := Lib.hid (newC w A sv c 9 hr (fun h => by
    rcases Nat.eq_zero_or_pos sv.length with h0 | h0
    · exact h0
    · obtain ⟨ad, e, _⟩ := hr.2 h0
      rw [h] at e; cases e) (by omega) (by omega) (by omega) (by omega))
  have HRD := Lib.hid hr
  have HM := Lib.hid hm
  clear hr hm
  go_enter Tryd.func3, Tryd.ntmps3
  go_wp2_with fail
  refine HN.out.mono ?_
  rintro e w1 ⟨z, rb, rfl, hR, hK, hsv, hpo, hse, hqs, _, _, hag, b1⟩
  have B1 := Lib.hid b1
  have HSV := Lib.hid hsv
  have HAG := Lib.hid hag
  have HA := Lib.hid (askE w1 w.heap.size rb z ⟨#[97]⟩ from_ 0 hR hK (HM.out.below b1 hpos) (by rw [hqs]; decide) is_a (by decide) (by decide) (by rw [hsv]; omega) (by rw [hsv]; omega) (by omega) (by omega) (by omega) (by omega) b1.size hpos (by rw [hqs]; simp))
  have HSE := Lib.hid hse
  have HQS := Lib.hid hqs
  clear hR hK hsv hpo hse hqs b1 HN hag
  unfold ptr
  go_wp2_with fail
  refine HA.out.mono ?_
  rintro e w2 ⟨g, QA, qc, A2, k2, hg, FA, DA, fc, dc, rfl, hR2, _, own, _, _, _, b2⟩
  have B2 := Lib.hid ((B1.out.trans b2))
  obtain ⟨gd, rfl, _, hc⟩ := row5 (d := ⟨z.port, svAt z 0, askB (idV 0 z.sent) ⟨#[97]⟩, A2, k2⟩) (by simpa using own)
  have c2 := hc 2 _ rfl
  have G0 : Hid (Gu w w2 rb sv from_ 1 1 (some ⟨gd, 0, none⟩)) := by
    refine ⟨⟨_, g, _, hR2, HSV.out, by rw [HQS.out]; rfl, rfl, by simp, rfl, by show from_ + 50 = _; omega, by show z.sent + 1 = _; rw [HSE.out]; rfl, HAG.out⟩, fun _ => ⟨gd, svAt z 0, rfl, c2, ?_⟩, B2.out⟩
    have hl : 0 < sv.length := by omega
    unfold svAt
    rw [HSV.out]
    simp [List.getElem?_eq_getElem hl]
  clear hR2 own b2 hc c2 HA
  go_wp2
  go_loopw [8, 9, 10] (fun dv nv tv ws => ∃ (a p j n : Nat) (DA : Option Addr) (dc : Nat), dv = .slice DA p dc ∧ nv = .int .i64 n ∧ Hid (n + p = a) ∧ tv = .int .i64 (from_ + j) ∧ 1 ≤ a ∧ a ≤ 4 ∧ p ≤ 1 ∧ j ≤ 50 * a ∧ Hid (Gu w ws rb sv from_ a p DA)) (fun _ _ tv _ => (from_ + 201 - intOf tv).toNat)
  case atStart => exact ⟨1, 1, 0, 0, _, dc, rfl, rfl, rfl, by simp, by omega, by omega, by omega, by omega, G0.out⟩
  case round =>
    obtain ⟨a, p, j, n, D3, d3, rfl, rfl, HNA, rfl, ha1, ha4, hp, hj, HG⟩ := hrel
    have t0 : from_ + j ≤ from_ + 200 := by omega
    go_wp2
    obtain ⟨wy, hwy⟩ : ∃ wy, wy = wr := ⟨_, rfl⟩
    have HWY := Lib.hid hwy
    clear hwy
    go_loopw [9, 11] (fun nv iv ws => ∃ i m k : Nat, iv = .int .i64 i ∧ i ≤ p ∧ nv = .int .i64 k ∧ Hid (k = n + i) ∧ Hid (ws = wy.drewN m)) (fun _ iv _ => p - (intOf iv).toNat)
    case atStart => exact ⟨0, 0, n, rfl, Nat.zero_le _, rfl, rfl, by rw [HWY.out]; rfl⟩
    case round =>
      obtain ⟨i, m, k, rfl, hi, rfl, HK, HW⟩ := hrel
      have GG : Hid (Below wy.heap.size wy wr) := by
        show Below _ _ _
        rw [HW.out]
        exact dn (rf wy) m
      by_cases hip : i < p
      · obtain rfl : p = 1 := by omega
        obtain rfl : i = 0 := by omega
        obtain ⟨gd2, v, rfl, hcell, hsvx⟩ := HG.out.row rfl
        have hka : k = a - 1 := by have h1 := HK.out; have h2 := HNA.out; omega
        have hL : 0 < sv.length := by omega
        obtain ⟨ix, hix⟩ : ∃ ix, (a - 1) % sv.length = ix := ⟨_, rfl⟩
        have hixl : ix < sv.length := by rw [← hix]; exact Nat.mod_lt _ hL
        have hidx : (k : Int) % (sv.length : Int) = (ix : Int) := by rw [hka, ← hix]; exact_mod_cast rfl
        rw [hix] at hsvx
        have hrd := HRD.out.below HG.out.be
        have hrd2 : Reads wr w.heap.size 1 A sv.length (sv.map (Value.int .u32)) := by rw [HW.out, HWY.out]; exact hrd.drewN m
        obtain ⟨ad, u, rfl, _, hu, hcs⟩ := hrd2.at_ hixl
        have hus : u = .int .u32 v := by rw [List.getElem?_map, hsvx] at hu; exact (Option.some.inj hu).symm
        rw [hus] at hcs
        have cd2 : wr.cell? ⟨gd2, 2, none⟩ = some (.int .u32 v) := by rw [HW.out, HWY.out]; exact hcell
        have k0 : (0 : Int) ≤ ix := by omega
        have k1 : (ix : Int) < sv.length := by omega
        have kk0 : (0 : Int) ≤ k := by omega
        have hz : ¬ (sv.length : Int) = 0 := by omega
        have hvv : ((v : Int) != v) = false := by simp
        have hk9 : k ≤ 4 := by omega
        have HKA := Lib.hid hka
        clear hka hix hsvx hcell hrd hrd2 hu hus
        go_wp2
        go_quiet (fail)
        go_wp2
        go_roundw
        case rel => exact ⟨1, m + _, k + 1, by go_num, by omega, by go_num, by have h1 := HK.out; show k + 1 = n + 1; omega, by show _ = _; rw [HW.out, World.drewN_drewN]⟩
        case measure => simp [intOf]
      · have hkn : k = a := by have h1 := HK.out; have h2 := HNA.out; omega
        have HKN := Lib.hid hkn
        have GW : Hid (Below w.heap.size w wr) := by
          show Below _ _ _
          rw [HW.out, HWY.out]
          exact dn HG.out.be m
        have M3 := HM.out.below GW.out hpos
        have hbw := GW.out.size
        obtain ⟨z3, g3, q3, R3, e1, e2, e3, e4, e5, e6, e7, e8⟩ := HG.out.all
        have R4 : IsRv wr w.heap.size rb z3 := by
          refine IsRv.nx R3 ?_
          rw [HW.out, HWY.out]
          exact dn (rf _) m
        clear hkn R3
        by_cases hlt : j < 50 * a
        · have HTK := Lib.hid (tickIdle wr w.heap.size rb g3 z3 q3 (from_ + j) 0 R4 e8 e2 M3 hbw hpos (by rw [e6]; omega))
          have E := Lib.hid (And.intro e1 (And.intro e2 (And.intro e3 (And.intro e4 (And.intro e5 (And.intro e6 (And.intro e7 e8)))))))
          clear e1 e2 e3 e4 e5 e6 e7 e8 R4 M3
          go_wp2_with fail
          refine HTK.out.mono ?_
          rintro e w5 ⟨F5, D5, fc5, dc5, rfl, R5, _, _, _, _, _, b5⟩
          have GE : Hid (Gu w w5 rb sv from_ a 0 D5) := ⟨⟨z3, g3, q3, R5, E.out⟩, fun h => absurd h (by decide), GW.out.trans b5⟩
          have HK0 : Hid (k + 0 = a) := HKN.out
          clear R5 b5 HTK
          go_wp2
          go_roundw
          case rel => exact ⟨a, 0, j + 1, k, D5, dc5, rfl, rfl, HK0.out, by rw [Int.natCast_add, ← Int.add_assoc]; rfl, ha1, ha4, by omega, by omega, GE.out⟩
          case measure => simp [intOf]; omega
        · have hj2 : j = 50 * a := by omega
          by_cases ha : a < 4
          · obtain ⟨s, hs⟩ : ∃ s : Int, s = ((a % sv.length : Nat) : Int) := ⟨_, rfl⟩
            have HTK := Lib.hid (tickAsks wr w.heap.size rb g3 z3 q3 (from_ + j) 0 R4 e8 e2 M3 hbw hpos (by rw [e6]; omega) s (by rw [e4, e1, srv_step _ _ ha1]; exact hs) (by rw [e3]; exact is_a) (by rw [e3]; decide) (by rw [e4]; omega) (by rw [e4, e1]; exact_mod_cast Nat.mod_lt _ (by omega)) (by rw [e1]; omega) (by omega) (by omega) (by rw [e5]; omega) (by rw [e5]; omega) (by rw [e7]; omega) (by rw [e7]; omega))
            have E := Lib.hid (And.intro e1 (And.intro e2 (And.intro e3 (And.intro e4 (And.intro e5 (And.intro e6 (And.intro e7 e8)))))))
            have HS := Lib.hid hs
            have HJ2 := Lib.hid hj2
            clear e1 e2 e3 e4 e5 e6 e7 e8 R4 M3 hs hj2
            go_wp2_with fail
            refine HTK.out.mono ?_
            rintro e w5 ⟨A5, k5, F5, D5, fc5, dc5, rfl, R5, _, own5, _, _, _, b5⟩
            obtain ⟨e1, e2, e3, e4, e5, e6, e7, e8⟩ := E.out
            obtain ⟨gd5, rfl, _, hc5⟩ := row5 (d := ⟨z3.port, svAt z3 s, askB (idV 0 z3.sent) q3.name, A5, k5⟩) (show w5.ownsRow wr.heap.size 36 5 (.slice D5 1 dc5) 1 (Dg.cs ⟨z3.port, svAt z3 s, askB (idV 0 z3.sent) q3.name, A5, k5⟩) from own5)
            have cc2 := hc5 2 _ rfl
            have hL : 0 < sv.length := by omega
            have GE : Hid (Gu w w5 rb sv from_ (a + 1) 1 (some ⟨gd5, 0, none⟩)) := by
              refine ⟨⟨_, g3, _, R5, e1, rfl, e3, ?_, ?_, ?_, ?_, e8⟩, fun _ => ⟨gd5, svAt z3 s, rfl, cc2, ?_⟩, GW.out.trans b5⟩
              · show s = _
                rw [HS.out]; rfl
              · show q3.asked + 1 = _
                rw [e5]; rfl
              · show from_ + (j : Int) + 50 = _
                rw [HJ2.out]; push_cast; omega
              · show z3.sent + 1 = _
                rw [e7]; rfl
              · unfold svAt
                rw [HS.out, e1, Int.toNat_natCast, Nat.add_sub_cancel, List.getElem?_eq_getElem (Nat.mod_lt _ hL)]
                rfl
            have HK1 : Hid (k + 1 = a + 1) := by show _ = _; rw [HKN.out]
            clear R5 b5 HTK own5 hc5 cc2 e1 e2 e3 e4 e5 e6 e7 e8
            go_wp2
            go_roundw
            case rel => exact ⟨a + 1, 1, j + 1, k, _, dc5, rfl, rfl, HK1.out, by rw [Int.natCast_add, ← Int.add_assoc]; rfl, by omega, by omega, by omega, by have := HJ2.out; omega, GE.out⟩
            case measure => simp [intOf]; omega
          · obtain rfl : a = 4 := by omega
            obtain rfl : j = 200 := by omega
            have hk4 : k = 4 := HKN.out
            subst hk4
            have HTK := Lib.hid (tickEnds wr w.heap.size rb g3 z3 q3 (from_ + (200 : Nat)) 0 R4 e8 e2 M3 hbw hpos (by rw [e6]; omega) (by rw [e5]; decide))
            clear e1 e2 e3 e4 e5 e6 e7 e8 R4 M3
            go_wp2_with fail
            refine HTK.out.mono ?_
            rintro e w5 ⟨Q5, qc5, F5, D5, fc5, dc5, rfl, R5, own5, _, _, _, _, b5⟩
            obtain ⟨gf5, rfl, _, hc5⟩ := row3 (d := ⟨q3.first, 30, [], none, 0⟩) (by simpa using own5)
            have cf1 := hc5 1 _ rfl
            have B5 := Lib.hid (GW.out.trans b5)
            clear R5 b5 HTK own5 hc5
            go_wp2_with fail
            refine (knownR _ (HM.out.below B5.out hpos) (by have := B5.out.size; omega)).mono ?_
            rintro e w6 ⟨rfl, b6⟩
            have B6 := Lib.hid (nx B5.out b6)
            clear b6
            go_wp2
            go_ret
            exact ⟨rfl, B6.out⟩
end Go.Proofs.YtpfkmmmlocmakaaDoor
