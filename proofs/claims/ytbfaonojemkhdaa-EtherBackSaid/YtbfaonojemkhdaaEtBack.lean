/-
  What a frame is written as is read as it, with noughts behind short data. No conditions.
-/
import Derived.Test.YtbfaonojemkhdaaEtDec
import Derived.Test.YtbfaonojemkhdaaEtEnc
set_option linter.unusedVariables false
namespace Go.Proofs.Ytbfaonojemkhdaa
open Go.ChangeShapes Go.WideShapes Go.ChangeAt Go.RowKit

set_option maxHeartbeats 400000 in
theorem same_q (w : World) (A B : Option Addr) (l m : List UInt8) (n1 n2 c d : Nat) (ha : Bytes w A l) (hb : Bytes w B m) (hl : n1 = l.length) (hm : n2 = m.length) (h1 : l.length ≤ 1099511627776) (h2 : m.length ≤ 1099511627776) :
    Calls Try.prog 21 #[.slice A n1 c, .slice B n2 d] w fun e w' => e = .returned (.bool (l == m)) ∧ ∃ k, w' = w.drewN k := by
  subst hl hm
  by_cases hlen : l.length = m.length
  · have hq : ((l.length : Int) != (m.length : Int)) = false := by rw [bne_eq_false_iff_eq]; omega
    have HL := Lib.hid hlen
    have hle1 : l.length ≤ m.length := by omega
    have hle2 : m.length ≤ l.length := by omega
    clear hlen
    go_enter Try.func21, Try.ntmps21
    go_wp2
    go_loopw [5] (fun i wr => ∃ k n : Nat, k ≤ l.length ∧ i = .int .i64 k ∧ wr = w.drewN n ∧ Hid (∀ j, (h1 : j < l.length) → (h2 : j < m.length) → j < k → l[j] = m[j])) (fun i _ => l.length - (intOf i).toNat)
    case atStart => exact ⟨0, 0, by omega, rfl, rfl, fun j _ _ h => absurd h (by omega)⟩
    case round =>
      obtain ⟨k, n, hk, rfl, rfl, HK⟩ := hrel
      by_cases hlt : k < l.length
      · obtain ⟨ad, rfl, _, hc1⟩ := ha.at_ hlt
        obtain ⟨bd, rfl, _, hc2⟩ := hb.at_ (show k < m.length by omega)
        have k0 : (0 : Int) ≤ k := by omega
        have k1 : (k : Int) < l.length := by omega
        have k2 : (k : Int) < m.length := by omega
        by_cases he : l[k] = m[k]'(by omega)
        · have hb1 : ((l[k].toNat : Int) != ((m[k]'(by omega)).toNat : Int)) = false := by rw [he]; simp
          have HE := Lib.hid he; clear he
          go_wp2_with fail
          go_quiet (fail)
          go_wp2
          go_roundw
          case rel => exact ⟨k + 1, _, by omega, by go_num, rfl, fun j h1 h2 hj => by
            by_cases hj' : j < k
            · exact HK.out j h1 h2 hj'
            · obtain rfl : j = k := by omega
              exact HE.out⟩
          case measure => simp [intOf]; omega
        · have hb1 : ((l[k].toNat : Int) != ((m[k]'(by omega)).toNat : Int)) = true := by
            rw [bne_iff_ne]; intro h; exact he (UInt8.toNat_inj.1 (Int.ofNat.inj h))
          have HE := Lib.hid he; clear he
          go_wp2_with fail
          go_quiet (fail)
          go_wp2
          go_ret
          exact ⟨ret_bool (by rw [eq_comm, beq_eq_false_iff_ne]; intro h; exact HE.out (by simp [h])), _, World.drewN_drewN _ _ _⟩
      · go_wp2
        go_ret
        exact ⟨ret_bool (list_same HL.out (fun j h1 h2 => HK.out j h1 h2 (by omega))).symm, _, rfl⟩
  · have hq : ((l.length : Int) != (m.length : Int)) = true := by rw [bne_iff_ne]; omega
    have HL := Lib.hid hlen
    clear hlen
    go_enter Try.func21, Try.ntmps21
    go_wp2
    go_ret
    exact ⟨ret_bool (by rw [eq_comm, beq_eq_false_iff_ne]; intro h; exact HL.out (by rw [h])), 0, rfl⟩


theorem enc_parts (t s : Mac) (k : Int) (l : List UInt8) (h0 : 0 ≤ k) (h1 : k ≤ 65535) : ∃ x y : UInt8, beB k.toNat 2 = [x, y] ∧ (x.toNat : Int) * 256 + y.toNat = k :=
  ⟨_, _, rfl, by simp only [Nat.reducePow, UInt8.toNat_ofNat']; omega⟩
theorem enc_dec (t s : Mac) (k : Int) (l : List UInt8) (hk : 1536 ≤ k) (h1 : k ≤ 65535) (hl : l.length ≤ 1500) :
    decX (encOk t s k l) = 0 ∧ decTo (encOk t s k l) = t ∧ decFrom (encOk t s k l) = s ∧ decKind (encOk t s k l) = k ∧ decData (encOk t s k l) = l ++ List.replicate (46 - l.length) 0 := by
  have hlen := encOk_len t s k l
  obtain ⟨x, y, hxy, hk2⟩ := enc_parts t s k l (by omega) h1
  have e : encOk t s k l = t.a :: t.b :: t.c :: t.d :: t.e :: t.f :: s.a :: s.b :: s.c :: s.d :: s.e :: s.f :: x :: y :: (l ++ List.replicate (46 - l.length) 0) := by
    unfold encOk; rw [hxy]; simp [Mac.l]
  have hkk : kindOf (encOk t s k l) = k := by rw [e, ← hk2]; simp [kindOf, beN]
  have hx : decX (encOk t s k l) = 0 := by
    unfold decX; rw [if_neg (by omega), if_neg (by omega), if_neg (by omega)]
  refine ⟨hx, ?_, ?_, ?_, ?_⟩
  · unfold decTo; rw [if_pos hx, e]; rfl
  · unfold decFrom; rw [if_pos hx, e]; rfl
  · unfold decKind; rw [if_pos hx, hkk]
  · unfold decData; rw [if_pos hx, e]; rfl

theorem neq_macs (a : Mac) (w : World) : (binOp .neq 23 (.agg #[.int .u8 a.a.toNat, .int .u8 a.b.toNat, .int .u8 a.c.toNat, .int .u8 a.d.toNat, .int .u8 a.e.toNat, .int .u8 a.f.toNat]) (.agg #[.int .u8 a.a.toNat, .int .u8 a.b.toNat, .int .u8 a.c.toNat, .int .u8 a.d.toNat, .int .u8 a.e.toNat, .int .u8 a.f.toNat])).run Try.prog w = .ok (.bool false) w := by
  have h := run_neq_ints w Try.underlying23 (by kernel_rfl) (by kernel_rfl) Try.underlying5 Try.isAgg5 [(a.a.toNat : Int), a.b.toNat, a.c.toNat, a.d.toNat, a.e.toNat, a.f.toNat] [(a.a.toNat : Int), a.b.toNat, a.c.toNat, a.d.toNat, a.e.toNat, a.f.toNat] rfl rfl
  rw [show ∀ l : List Int, (l != l) = false from fun l => by simp] at h
  exact h
theorem cells14 {w : World} {g : Nat} {ty : TypeId} {c0 c1 c2 c3 c4 c5 c6 c7 c8 c9 c10 c11 c12 c13 : Value} (h : Blk w g ty #[c0, c1, c2, c3, c4, c5, c6, c7, c8, c9, c10, c11, c12, c13]) :
    w.cell? ⟨g, 0, none⟩ = some c0 ∧ w.cell? ⟨g, 1, none⟩ = some c1 ∧ w.cell? ⟨g, 2, none⟩ = some c2 ∧ w.cell? ⟨g, 3, none⟩ = some c3 ∧ w.cell? ⟨g, 4, none⟩ = some c4 ∧ w.cell? ⟨g, 5, none⟩ = some c5 ∧ w.cell? ⟨g, 6, none⟩ = some c6 ∧
    w.cell? ⟨g, 7, none⟩ = some c7 ∧ w.cell? ⟨g, 8, none⟩ = some c8 ∧ w.cell? ⟨g, 9, none⟩ = some c9 ∧ w.cell? ⟨g, 10, none⟩ = some c10 ∧ w.cell? ⟨g, 11, none⟩ = some c11 ∧ w.cell? ⟨g, 12, none⟩ = some c12 ∧ w.cell? ⟨g, 13, none⟩ = some c13 :=
  ⟨h.cell 0, h.cell 1, h.cell 2, h.cell 3, h.cell 4, h.cell 5, h.cell 6, h.cell 7, h.cell 8, h.cell 9, h.cell 10, h.cell 11, h.cell 12, h.cell 13⟩
set_option maxHeartbeats 1000000 in
theorem etherBack_walk (t s : Mac) (k : Int) (A : Option Addr) (l : List UInt8) (c : Nat) (w : World) (hb : Bytes w A l) (hl : l.length ≤ 9223372036854775807) :
    Calls Try.prog 8 #[frV t s k (.slice A l.length c)] w fun e w' => e = .returned (.bool true) ∧ Below w.heap.size w w' := by
  obtain ⟨le, x, he⟩ : ∃ le x, encF t s k l = (le, x) := ⟨_, _, rfl⟩
  have hle := encF_len t s k l
  rw [he] at hle
  have HE := Lib.hid he
  have B0 := Blk.new w 41 #[.int .u8 t.a.toNat, .int .u8 t.b.toNat, .int .u8 t.c.toNat, .int .u8 t.d.toNat, .int .u8 t.e.toNat, .int .u8 t.f.toNat, .int .u8 s.a.toNat, .int .u8 s.b.toNat, .int .u8 s.c.toNat, .int .u8 s.d.toNat, .int .u8 s.e.toNat, .int .u8 s.f.toNat, .int .i64 k, .slice A l.length c]
  unfold frV
  by_cases h2 : 2000 < (l.length : Int)
  · clear he
    go_enter Try.func8, Try.ntmps8
    go_wp2
    go_ret
    exact ⟨rfl, al (rf w) _⟩
  · by_cases hx : x = 0
    · have hg : 1536 ≤ k ∧ k ≤ 65535 ∧ l.length ≤ 1500 ∧ le = encOk t s k l := by
        unfold encF at he
        by_cases a1 : k < 1536 ∨ 65535 < k
        · rw [if_pos a1] at he; injection he with _ he; omega
        · rw [if_neg a1] at he
          by_cases a2 : 1500 < l.length
          · rw [if_pos a2] at he; injection he with _ he; omega
          · rw [if_neg a2] at he; injection he with he _; exact ⟨by omega, by omega, by omega, he.symm⟩
      obtain ⟨k1, k2, k3, k4⟩ := hg
      have hd := enc_dec t s k l k1 k2 k3
      rw [← k4] at hd
      obtain ⟨d1, d2, d3, d4, d5⟩ := hd
      subst hx
      clear he k4
      have D : ∀ (A : Option Addr) (n c : Nat) (W : World), Bytes W A le → n = le.length → Calls Try.prog 24 #[.slice A n c] W fun e w' => ∃ A' n' c', e = .returned (.tuple #[frV t s k (.slice A' n' c'), .int .i64 0]) ∧ IsRow W w' (l ++ List.replicate (46 - l.length) 0) (.slice A' n' c') ∧ Hid (n' = (l ++ List.replicate (46 - l.length) 0).length) := fun A n c W h hn => by
        have := decode_any A le n c W h hn
        unfold DecRes at this
        rw [d1, d2, d3, d4, d5] at this
        exact this
      have hdl : (l ++ List.replicate (46 - l.length) (0 : UInt8)).length = max l.length 46 := by simp; omega
      have hdt : (l ++ List.replicate (46 - l.length) (0 : UInt8)).take l.length = l := List.take_left' rfl
      have hdz : ∀ j, l.length ≤ j → (hj : j < (l ++ List.replicate (46 - l.length) (0 : UInt8)).length) → (l ++ List.replicate (46 - l.length) (0 : UInt8))[j] = 0 := by
        intro j h1 h2
        rw [List.getElem_append_right h1]; simp
      generalize l ++ List.replicate (46 - l.length) (0 : UInt8) = dd at D hdl hdt hdz
      clear d1 d2 d3 d4 d5
      have HDL := Lib.hid hdl; clear hdl
      have HDT := Lib.hid hdt; clear hdt
      have HDZ := Lib.hid hdz; clear hdz
      go_enter Try.func8, Try.ntmps8
      go_wp2_with (refine wpList_load_row rfl 41 (.tmp 1) rfl _ rfl _ _ _ _ B0 Try.underlying41 rfl (by kernel_rfl) ?_)
      refine (encode_any t s k A l le _ c 0 _ (hb.al _) rfl HE).mono ?_
      rintro e w1 ⟨v1, rfl, hr1⟩
      obtain ⟨A1, n1, c1, rfl, hn1⟩ := hr1.slice
      have B1 := B0.nx hr1.2
      have bw1 : Below w.heap.size w w1 := nx (al (rf w) _) hr1.2
      go_wp2_with fail
      refine (D _ _ _ _ (by have h := hr1.1; rw [hn1.out] at h; exact Bytes.own h) hn1.out).mono ?_
      rintro e w2 ⟨A2, n2, c2, rfl, hr2, hn2⟩
      unfold frV
      have F3 := Blk.new w2 41 #[.int .u8 t.a.toNat, .int .u8 t.b.toNat, .int .u8 t.c.toNat, .int .u8 t.d.toNat, .int .u8 t.e.toNat, .int .u8 t.f.toNat, .int .u8 s.a.toNat, .int .u8 s.b.toNat, .int .u8 s.c.toNat, .int .u8 s.d.toNat, .int .u8 s.e.toNat, .int .u8 s.f.toNat, .int .i64 k, .slice A2 n2 c2]
      have B3 := (B1.nx hr2.2).alloc (.cells #[.int .u8 t.a.toNat, .int .u8 t.b.toNat, .int .u8 t.c.toNat, .int .u8 t.d.toNat, .int .u8 t.e.toNat, .int .u8 t.f.toNat, .int .u8 s.a.toNat, .int .u8 s.b.toNat, .int .u8 s.c.toNat, .int .u8 s.d.toNat, .int .u8 s.e.toNat, .int .u8 s.f.toNat, .int .i64 k, .slice A2 n2 c2] 41)
      have bw3 := al (nx bw1 hr2.2) (.cells #[.int .u8 t.a.toNat, .int .u8 t.b.toNat, .int .u8 t.c.toNat, .int .u8 t.d.toNat, .int .u8 t.e.toNat, .int .u8 t.f.toNat, .int .u8 s.a.toNat, .int .u8 s.b.toNat, .int .u8 s.c.toNat, .int .u8 s.d.toNat, .int .u8 s.e.toNat, .int .u8 s.f.toNat, .int .i64 k, .slice A2 n2 c2] 41)
      have hn46 : 46 ≤ n2 := by rw [hn2.out, HDL.out]; omega
      have hn15 : n2 ≤ 1500 := by rw [hn2.out, HDL.out]; omega
      have hnl : l.length ≤ n2 := by rw [hn2.out, HDL.out]; omega
      obtain ⟨g, cap, hv, _, _, hcap, _⟩ := own_form hr2.1 (by rw [← hn2.out]; omega)
      injection hv with hA hN hC
      rw [← hn2.out, ← hC] at hcap
      clear hC hN hA
      have hnm : n2 = max l.length 46 := by rw [hn2.out, HDL.out]
      have HNM := Lib.hid hnm; clear hnm
      have q0 : ((n2 : Int) != max (l.length : Int) 46) = false := by rw [bne_eq_false_iff_eq, HNM.out]; omega
      have e2 : Bytes w2 A2 dd := by have h := hr2.1; rw [← hn2.out] at h; exact (own_bytes h).1
      have e3 : Bytes w2 A2 l := by have h := take_bytes (m := l.length) e2 (by rw [← hn2.out]; omega); rwa [HDT.out] at h
      have hb3 := hb.nx bw3
      have e3' := e3.nx (al (rf w2) (.cells #[.int .u8 t.a.toNat, .int .u8 t.b.toNat, .int .u8 t.c.toNat, .int .u8 t.d.toNat, .int .u8 t.e.toNat, .int .u8 t.f.toNat, .int .u8 s.a.toNat, .int .u8 s.b.toNat, .int .u8 s.c.toNat, .int .u8 s.d.toNat, .int .u8 s.e.toNat, .int .u8 s.f.toNat, .int .i64 k, .slice A2 n2 c2] 41))
      have e4 := e2.nx (al (rf w2) (.cells #[.int .u8 t.a.toNat, .int .u8 t.b.toNat, .int .u8 t.c.toNat, .int .u8 t.d.toNat, .int .u8 t.e.toNat, .int .u8 t.f.toNat, .int .u8 s.a.toNat, .int .u8 s.b.toNat, .int .u8 s.c.toNat, .int .u8 s.d.toNat, .int .u8 s.e.toNat, .int .u8 s.f.toNat, .int .i64 k, .slice A2 n2 c2] 41))
      obtain ⟨x0, x1, x2, x3, x4, x5, x6, x7, x8, x9, x10, x11, x12, x13⟩ := cells14 F3
      obtain ⟨y0, y1, y2, y3, y4, y5, y6, y7, y8, y9, y10, y11, y12, y13⟩ := cells14 B3
      have E2 := Lib.hid e2; clear e2 e3
      have qt := neq_macs t
      have qs := neq_macs s
      have j1 : (l.length : Int) ≤ c2 := by omega
      go_wp2
      go_quiet ((go_at_call 21; exact Calls.quiet_of (same_q _ A2 A l l l.length l.length c2 c (by exact Reads.drewN e3' _) (by exact Reads.drewN hb3 _) rfl rfl (by omega) (by omega))))
      clear x0 x1 x2 x3 x4 x5 x6 x7 x8 x9 x10 x11 x12 y0 y1 y2 y3 y4 y5 y6 y7 y8 y9 y10 y11 y12 qt qs q0 F3 B3 B1 B0 D
      go_wp2
      go_loop [7] (fun i => ∃ j : Nat, l.length ≤ j ∧ j ≤ n2 ∧ i = .int .i64 j) (fun i => n2 - (intOf i).toNat)
      case atStart => exact ⟨l.length, by omega, hnl, rfl⟩
      case round =>
        obtain ⟨j, hj1, hj2, rfl⟩ := hrel
        by_cases hlt : j < n2
        · have hjd : j < dd.length := by rw [← hn2.out]; exact hlt
          obtain ⟨ad, rfl, _, hc1⟩ := e4.at_ hjd
          rw [HDZ.out j hj1 hjd] at hc1
          have k0 : (0 : Int) ≤ j := by omega
          have k1 : (j : Int) < n2 := by omega
          go_wp2
          go_round
          case rel => exact ⟨j + 1, by omega, by omega, by go_num⟩
          case measure => simp [intOf]; omega
        · go_wp2_with fail
          refine (known _).mono ?_
          rintro e w8 ⟨rfl, hb8⟩
          go_wp2
          go_ret
          exact ⟨rfl, nx (dn bw3 _) hb8⟩
    · have hg : le = [] := by
        unfold encF at he
        by_cases a1 : k < 1536 ∨ 65535 < k
        · rw [if_pos a1] at he; injection he with he _; exact he.symm
        · rw [if_neg a1] at he
          by_cases a2 : 1500 < l.length
          · rw [if_pos a2] at he; injection he with he _; exact he.symm
          · rw [if_neg a2] at he; injection he with _ he; omega
      subst hg
      clear he
      have hx1 : ((x : Int) != 0) = true := by rw [bne_iff_ne]; exact hx
      go_enter Try.func8, Try.ntmps8
      go_wp2_with (refine wpList_load_row rfl 41 (.tmp 1) rfl _ rfl _ _ _ _ B0 Try.underlying41 rfl (by kernel_rfl) ?_)
      refine (encode_any t s k A l [] _ c x _ (hb.al _) rfl HE).mono ?_
      rintro e w1 ⟨v1, rfl, hr1⟩
      obtain ⟨A1, n1, c1, rfl, hn1⟩ := hr1.slice
      obtain rfl : n1 = 0 := hn1.out
      go_wp2_with fail
      refine (known _).mono ?_
      rintro e w8 ⟨rfl, hb8⟩
      go_wp2
      go_ret
      exact ⟨rfl, nx (nx (al (rf w) _) hr1.2) hb8⟩

set_option maxRecDepth 100000 in
theorem etherBack_lifted (os : Os) (started : os.Started) (H : Type) (enc : TypeId × Value → H) :
    ReturnsInHanded {} Try.checked os 8 .any (Rows.etherBackSpec.pre6 enc Try.prog Try.f8 Rows.etherBackRow.domain false) (Rows.etherBackSpec.post enc Try.prog Try.f8 false true false false) :=
  law_lift started (by kernel_rfl) Try.func8
    (ChangeSpec.witness6 (enc := enc) (C := Try.checked) false ⟨#[], #[.agg #[.int .u8 0, .int .u8 0, .int .u8 0, .int .u8 0, .int .u8 0, .int .u8 0, .int .u8 0, .int .u8 0, .int .u8 0, .int .u8 0, .int .u8 0, .int .u8 0, .int .i64 0, .slice none 0 0]], []⟩ 8 (by kernel_rfl) (by kernel_rfl) (by kernel_rfl) (by kernel_rfl))
    rfl rfl Try.underlying4 (by kernel_rfl) (fun ds h => match ds, h with | [_], _ => rfl)
    (fun W base args ds p hval hA hsz => by
      rw [Try.params8] at hA hval
      obtain ⟨v0, d0, rfl, rfl, h0⟩ := trodAll_one hA
      obtain ⟨to, fr, k, A, l, c, rfl, hb, hl⟩ := open_frame (hval 0 41 v0 rfl rfl) h0
      exact etherBack_walk to fr k A l c W hb (by unfold maxLen at hl; omega))

theorem etherBack_holds : Rows.EtherBackSaid :=
  OpenClaim.holds_of_wide 8 Try.f8 rfl rfl rfl rfl rfl rfl rfl ⟨rfl, rfl, rfl, rfl, rfl⟩ rfl rfl rfl rfl rfl (by kernel_rfl) Try.func8 (by kernel_rfl)
    (of_decide_eq_true (by kernel_rfl)) (by unfold Func.isWrapper; rw [if_neg (of_decide_eq_false (by kernel_rfl))]; exact ⟨rfl, rfl⟩)
    (fun os started H enc _ => etherBack_lifted os started H enc)
end Go.Proofs.Ytbfaonojemkhdaa
