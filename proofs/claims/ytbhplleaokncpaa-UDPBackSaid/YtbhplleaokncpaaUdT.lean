/-
  UDPTurned: one byte of a datagram turned into another is refused, or another datagram only by its length. No conditions.
-/
import Derived.Test.YtbhplleaokncpaaUdN
import Derived.Laws.BitsAllLaws
set_option linter.unusedVariables false
namespace Go.Proofs.Ytbhplleaokncpaa
open Go.ChangeShapes Go.WideShapes Go.ChangeAt Go.RowKit
set_option maxRecDepth 100000

-- what Encode gives, by cases
theorem encU_cases (a : Nat) (frp : Int) (b : Nat) (top : Int) (l le : List UInt8) (x : Int) (h : encU a frp b top l = (le, x)) :
    (x ≠ 0 ∧ le = []) ∨ (x = 0 ∧ 0 ≤ frp ∧ frp ≤ 65535 ∧ 0 ≤ top ∧ top ≤ 65535 ∧ l.length ≤ 65507 ∧ le = udpB frp top l (encS a frp b top l)) := by
  unfold encU at h
  by_cases h1 : (frp < 0 ∨ 65535 < frp) ∨ (top < 0 ∨ 65535 < top)
  · rw [if_pos h1] at h; injection h with h2 h3; exact .inl ⟨by omega, h2.symm⟩
  · rw [if_neg h1] at h
    by_cases h2 : 65507 < l.length
    · rw [if_pos h2] at h; injection h with h2 h3; exact .inl ⟨by omega, h2.symm⟩
    · rw [if_neg h2] at h; injection h with h3 h4
      exact .inr ⟨h4.symm, by omega, by omega, by omega, by omega, by omega, h3.symm⟩
theorem set_byte (le : List UInt8) (k : Nat) (v : UInt8) : (Lib.byteCells le).set k (.int .u8 v.toNat) = Lib.byteCells (le.set k v) := by
  simp [Lib.byteCells, List.map_set]
theorem xor_byte (x : UInt8) (by_ : Int) (h0 : 0 < by_) (h1 : by_ ≤ 255) : ∃ v : UInt8, bits .xor .u8 (x.toNat : Int) by_ = (v.toNat : Int) ∧ v ≠ x := by
  have hx := x.toNat_lt
  have hz : x.toNat ^^^ by_.toNat < 2 ^ 8 := Nat.xor_lt_two_pow (by omega) (by omega)
  refine ⟨UInt8.ofNat (x.toNat ^^^ by_.toNat), ?_, ?_⟩
  · rw [u8_xor _ _ (by omega) (by omega) (by omega) (by omega), Int.toNat_natCast, UInt8.toNat_ofNat']
    rw [Nat.mod_eq_of_lt hz]
  · intro h
    have h2 := congrArg UInt8.toNat h
    rw [UInt8.toNat_ofNat', Nat.mod_eq_of_lt hz] at h2
    have h3 : x.toNat ^^^ (x.toNat ^^^ by_.toNat) = 0 := by rw [h2]; exact Nat.xor_self _
    rw [← Nat.xor_assoc, Nat.xor_self, Nat.zero_xor] at h3
    omega
theorem byte_getD (L : List UInt8) (k : Nat) (h : k < L.length) : (Lib.byteCells L)[k]? = some (.int .u8 (L.getD k 0).toNat) := by
  rw [byteCells_at L k h, List.getD_eq_getElem?_getD, List.getElem?_eq_getElem h]; rfl
theorem tmod_gt (a : Int) (n : Nat) (h : 0 < n) : -(n : Int) < a.tmod n := by
  have := Int.tmod_lt_of_pos (-a) (b := n) (by omega)
  rw [Int.neg_tmod] at this; omega
set_option maxHeartbeats 6400000 in
theorem udpTurned_walk (fr frp to_ top : Int) (A : Option Addr) (l : List UInt8) (c : Nat) (at_ by_ : Int) (w : World) (hk : okA fr to_) (hb : Bytes w A l) (hl : l.length ≤ 9223372036854775807) (y0 : 0 ≤ by_) (y1 : by_ ≤ 255) (z0 : -9223372036854775808 ≤ at_) (z1 : at_ ≤ 9223372036854775807) :
    Calls Try.prog 11 #[.agg #[.int .u32 fr, .int .i64 frp, .int .u32 to_, .int .i64 top, .slice A l.length c], .int .i64 at_, .int .u8 by_] w fun e w' => e = .returned (.bool true) ∧ Below w.heap.size w w' := by
  obtain ⟨a, rfl⟩ : ∃ a : Nat, fr = a := ⟨fr.toNat, by have := hk.1; omega⟩
  obtain ⟨b, rfl⟩ : ∃ b : Nat, to_ = b := ⟨to_.toNat, by have := hk.2.2.1; omega⟩
  have ha : a ≤ 4294967295 := by have := hk.2.1; omega
  have hb4 : b ≤ 4294967295 := by have := hk.2.2.2; omega
  have HK := Lib.hid hk; clear hk
  obtain ⟨le, x, he⟩ : ∃ le x, encU a frp b top l = (le, x) := ⟨_, _, rfl⟩
  have HC := Lib.hid (encU_cases a frp b top l le x he)
  have HE := Lib.hid he; clear he
  by_cases h2 : 2000 < (l.length : Int)
  · go_enter Try.func11, Try.ntmps11
    go_wp2
    go_ret
    exact ⟨rfl, al (rf w) _⟩
  · have B0 := Blk.new w 37 #[.int .u32 a, .int .i64 frp, .int .u32 b, .int .i64 top, .slice A l.length c]
    rcases HC.out with ⟨hx, rfl⟩ | ⟨rfl, p0, p1, q0, q1, hl2, hle⟩
    · have hx1 : ((x : Int) != 0) = true := by rw [bne_iff_ne]; exact hx
      clear hx HC
      go_enter Try.func11, Try.ntmps11
      go_wp2_with (refine wpList_load_row rfl 37 (.tmp 3) rfl _ rfl _ _ _ _ B0 Try.underlying37 rfl (by kernel_rfl) ?_)
      refine (udpEnc_any a frp b top _ l [] _ _ x _ HK.out (hb.al _) rfl (by omega) HE).mono ?_
      rintro e w1 ⟨v, rfl, hr⟩
      go_wp2_with fail
      refine (known _).mono ?_
      rintro e w8 ⟨rfl, hb8⟩
      go_wp2
      go_ret
      exact ⟨rfl, nx (nx (al (rf w) _) hr.2) hb8⟩
    · have hn : le.length = 8 + l.length := by rw [hle, udpB_len]
      have HT := Lib.hid (fun k v (hk : k < le.length) (hv : v ≠ le[k]) => why_turned a b frp top l k v ha hb4 (by omega) (by omega) hl2 le hle hk hv)
      have HLE := Lib.hid hle; clear hle HC
      obtain ⟨by1, hy, y2, y3⟩ : ∃ y : Int, Hid ((by_ = 0 ∧ y = 1) ∨ (by_ ≠ 0 ∧ y = by_)) ∧ 0 < y ∧ y ≤ 255 := by
        by_cases h : by_ = 0
        · exact ⟨1, .inl ⟨h, rfl⟩, by omega, by omega⟩
        · exact ⟨by_, .inr ⟨h, rfl⟩, by omega, by omega⟩
      have n8 : 8 ≤ le.length := by omega
      have n9 : le.length ≤ 10000 := by omega
      clear hn
      obtain ⟨r, hr, r0, r1⟩ : ∃ r : Int, Int.tmod at_ (le.length : Int) = r ∧ -(le.length : Int) < r ∧ r < (le.length : Int) := ⟨_, rfl, tmod_gt at_ le.length (by omega), Int.tmod_lt_of_pos _ (by omega)⟩
      obtain ⟨k, hk, hkr⟩ : ∃ k : Nat, k < le.length ∧ ((r < 0 ∧ r + (le.length : Int) = k) ∨ (0 ≤ r ∧ r = k)) := by
        by_cases h : r < 0
        · exact ⟨(r + le.length).toNat, by omega, .inl ⟨h, by omega⟩⟩
        · exact ⟨r.toNat, by omega, .inr ⟨by omega, by omega⟩⟩
      obtain ⟨v, hv, hvn⟩ := xor_byte le[k] by1 y2 y3
      have ht := HT.out k v hk hvn
      have HTT := Lib.hid ht
      have HV := Lib.hid hv
      have HR := Lib.hid hr
      have HKR := Lib.hid hkr
      have i8 : ¬ ((le.length : Int) < 8) := by omega
      clear ht hvn HT hv hr hkr
      go_enter Try.func11, Try.ntmps11
      go_wp2_with (refine wpList_load_row rfl 37 (.tmp 3) rfl _ rfl _ _ _ _ B0 Try.underlying37 rfl (by kernel_rfl) ?_)
      refine (udpEnc_any a frp b top _ l le _ _ 0 _ HK.out (hb.al _) rfl (by omega) HE).mono ?_
      rintro e w1 ⟨v1, rfl, hr1⟩
      obtain ⟨g, cap, rfl, hg, hg2, hcap, hcm, cur, BG, hcs, hct⟩ := own_form hr1.1 (by omega)
      have O1 := Lib.hid hr1.1
      have BW1 := Lib.hid (nx (al (rf w) _) hr1.2)
      have B1 := Lib.hid (B0.nx hr1.2)
      have ck : w1.cell? ⟨g, k, none⟩ = some (.int .u8 le[k].toNat) := (O1.out.cellAt k (by omega)).trans (byteCells_at le k hk)
      have fk : w1.frozen? ⟨g, k, none⟩ = false := O1.out.frozenAt k
      have hgw := Lib.hid hg
      have O2 : Hid ((w1.setCell ⟨g, k, none⟩ (.int .u8 v.toNat)).ownsRow (w.alloc (.cells #[.int .u32 a, .int .i64 frp, .int .u32 b, .int .i64 top, .slice A l.length c] 37)).heap.size 5 1 (.slice (some ⟨g, 0, none⟩) (le.set k v).length cap) (le.set k v).length (Lib.byteCells (le.set k v))) := by
        have h := (O1.out.stored k (.int .u8 v.toNat)).1
        rw [set_byte] at h
        rw [List.length_set]
        exact h
      simp at hg
      have BW2 := Lib.hid (BW1.out.setCell (p := ⟨g, k, none⟩) (by show w.heap.size ≤ g; omega) (.int .u8 v.toNat))
      have k0 : w1.cell? ⟨w.heap.size, 0, none⟩ = some (.int .u32 a) := B1.out.cell 0
      have k2 : w1.cell? ⟨w.heap.size, 2, none⟩ = some (.int .u32 b) := B1.out.cell 2
      have kn : Hid (w.heap.size ≠ g) := by show _ ≠ _; omega
      have B2 := B1.out.far (p := ⟨g, k, none⟩) kn.out (.int .u8 v.toNat)
      have m0 : (w1.setCell ⟨g, k, none⟩ (.int .u8 v.toNat)).cell? ⟨w.heap.size, 0, none⟩ = some (.int .u32 a) := B2.cell 0
      have m2 : (w1.setCell ⟨g, k, none⟩ (.int .u8 v.toNat)).cell? ⟨w.heap.size, 2, none⟩ = some (.int .u32 b) := B2.cell 2
      clear BG hcs hct hr1 B2 k0 k2
      have hkI : (k : Int) < (le.length : Int) := by omega
      have hk0 : (0 : Int) ≤ k := by omega
      have hk1 : ¬ ((k : Int) < 0) := by omega
      have HBY : Hid (bits .xor .u8 (le[k].toNat : Int) by1 = (v.toNat : Int)) := HV
      generalize hxk : le[k].toNat = xk at ck HBY
      clear hxk HV
      have hle' : (le.set k v).length = le.length := List.length_set ..
      have HLS := Lib.hid hle'; clear hle'
      generalize hL : le.set k v = L at O2 HTT HLS
      have HL := Lib.hid hL; clear hL
      rcases hy.out with ⟨rfl, rfl⟩ | ⟨hby, rfl⟩
      focus
        have hxv := HBY.out
        rcases HKR.out with ⟨hr0, hrk⟩ | ⟨hr0, rfl⟩
        focus
          have hrw : IntKind.i64.wrap (r + (le.length : Int)) = k := by rw [IntWalk.i64_in _ (by omega)]; exact hrk
          have hrm := HR.out
          clear HBY hy HKR HR
          go_wp2_with fail
        rotate_left
        focus
          have hrm := HR.out
          clear HBY hy HKR HR
          go_wp2_with fail
      rotate_left
      rotate_left
      focus
        have hxv := HBY.out
        have hbb : ((by1 : Int) == 0) = false := by rw [beq_eq_false_iff_ne]; exact hby
        rcases HKR.out with ⟨hr0, hrk⟩ | ⟨hr0, rfl⟩
        focus
          have hrw : IntKind.i64.wrap (r + (le.length : Int)) = k := by rw [IntWalk.i64_in _ (by omega)]; exact hrk
          have hrm := HR.out
          clear HBY hy HKR HR
          go_wp2_with fail
        rotate_left
        focus
          have hrm := HR.out
          clear HBY hy HKR HR
          go_wp2_with fail
      all_goals
        refine (udd_all a b (some ⟨g, 0, none⟩) L le.length cap _ HK.out (own_bytes O2.out).2 HLS.out.symm (by rw [HLS.out]; exact hcap) (by rw [HLS.out]; omega)).mono ?_
        rintro e w3 ⟨A3, n3, c3, rfl, hr3, hn3⟩
        have O3 := Lib.hid (own_nx O2.out hr3.2)
        have BW3 := Lib.hid (nx BW2.out hr3.2)
        have HT2 : Hid ((whyU a b L ≠ 0 ∨ (L.getD 6 0).toNat = 0 ∧ (L.getD 7 0).toNat = 0 ∨ k = 4 ∨ k = 5)) := HTT
        have D6 : Hid (∀ o, (w3.alloc o).cell? ⟨g, 6, none⟩ = some (.int .u8 (L.getD 6 0).toNat) ∧ (w3.alloc o).cell? ⟨g, 7, none⟩ = some (.int .u8 (L.getD 7 0).toNat)) := fun o =>
          ⟨((own_nx O3.out (al (rf w3) o)).cellAt 6 (by rw [HLS.out]; omega)).trans (byte_getD L 6 (by rw [HLS.out]; omega)), ((own_nx O3.out (al (rf w3) o)).cellAt 7 (by rw [HLS.out]; omega)).trans (byte_getD L 7 (by rw [HLS.out]; omega))⟩
        unfold dgV
        generalize dF a b L a = f1
        generalize dF a b L (at2 L 0) = f2
        generalize dF a b L b = f3
        generalize dF a b L (at2 L 2) = f4
        generalize whyU a b L = x at HT2 ⊢
        generalize (L.getD 6 0).toNat = n6 at D6 HT2
        generalize (L.getD 7 0).toNat = n7 at D6 HT2
        have D6o := fun o => (D6.out o).1
        have D7o := fun o => (D6.out o).2
        have i6 : (6 : Int) < le.length := by omega
        have i7 : (7 : Int) < le.length := by omega
        clear HTT D6 O3 hr3 ck fk m0 m2
        have fin : (((x : Int) != 0) = true) ∨ (((x : Int) != 0) = false ∧ ((n6 : Int) == 0) = true ∧ ((n7 : Int) == 0) = true) ∨ (((x : Int) != 0) = false ∧ ((k : Int) == 4) = true) ∨ (((x : Int) != 0) = false ∧ ((k : Int) == 4) = false ∧ ((k : Int) == 5) = true) := by
          by_cases hx : x = 0
          · subst hx
            rcases HT2.out with h | ⟨h6, h7⟩ | h | h
            · exact absurd rfl h
            · exact .inr (.inl ⟨rfl, by simp [h6], by simp [h7]⟩)
            · exact .inr (.inr (.inl ⟨rfl, by simp [h]⟩))
            · exact .inr (.inr (.inr ⟨rfl, by simp [h], by simp [h]⟩))
          · exact .inl (by rw [bne_iff_ne]; exact hx)
        have zero : (((n6 : Int) == 0) = true ∧ ((n7 : Int) == 0) = true) ∨ (((n6 : Int) == 0) = true ∧ ((n7 : Int) == 0) = false) ∨ (((n6 : Int) == 0) = false) := by
          cases h6 : ((n6 : Int) == 0) <;> cases h7 : ((n7 : Int) == 0) <;> simp
        have FIN := Lib.hid fin
        have ZERO := Lib.hid zero
        clear fin zero HT2
        rcases FIN.out with hx | ⟨hx, h6, h7⟩ | ⟨hx, h4⟩ | ⟨hx, h4, h5⟩
        rotate_left
        focus
          clear FIN ZERO
          go_wp2_with fail
        rotate_left
        rotate_left
        rotate_left
        all_goals (first | (rcases ZERO.out with ⟨h6, h7⟩ | ⟨h6, h7⟩ | h6) | skip)
        all_goals (first | (clear FIN ZERO; go_wp2_with fail) | skip)
        all_goals
          refine (known _).mono ?_
          rintro e w8 ⟨rfl, hb8⟩
          go_wp2
          go_ret
          exact ⟨rfl, nx (al BW3.out _) hb8⟩
theorem open_byte {H : Type} {enc : TypeId × Value → H} {w : World} {base b0 : Nat} {r : Reach} {sp : Nat → Bool} {held : Bool} {v : Value} {d : DataW H} {p : List MemPlace}
    (hv : Value.okWide Try.prog w r b0 5 v) (h : DataW.Trod enc Try.prog w base sp held 5 v d p) : ∃ n, v = .int .u8 n ∧ 0 ≤ n ∧ n ≤ 255 := by
  obtain ⟨k, rfl⟩ := okWide_int Try.underlying5 hv
  obtain ⟨fuel, hf⟩ := h
  obtain ⟨n, h1, _, h2⟩ := DataW.trod_int Try.underlying5 hf
  have := bounds_u8 h2
  simp [Value.cells] at h1
  subst h1
  exact ⟨_, rfl, by omega, by omega⟩
theorem open_i64 {H : Type} {enc : TypeId × Value → H} {w : World} {base b0 : Nat} {r : Reach} {sp : Nat → Bool} {held : Bool} {v : Value} {d : DataW H} {p : List MemPlace}
    (hv : Value.okWide Try.prog w r b0 3 v) (h : DataW.Trod enc Try.prog w base sp held 3 v d p) : ∃ n, v = .int .i64 n ∧ -9223372036854775808 ≤ n ∧ n ≤ 9223372036854775807 := by
  obtain ⟨k, rfl⟩ := okWide_int Try.underlying3 hv
  obtain ⟨fuel, hf⟩ := h
  obtain ⟨n, h1, _, h2⟩ := DataW.trod_int Try.underlying3 hf
  simp [Value.cells] at h1
  subst h1
  refine ⟨_, rfl, ?_, ?_⟩ <;> (simp [Lit.wf, IntKind.min, IntKind.max, IntKind.signed, IntKind.bits] at h2; omega)
theorem udpTurned_lifted (os : Os) (started : os.Started) (H : Type) (enc : TypeId × Value → H) :
    ReturnsInHanded {} Try.checked os 11 .any (Rows.uDPTurnedSpec.pre6 enc Try.prog Try.f11 Rows.uDPTurnedRow.domain false) (Rows.uDPTurnedSpec.post enc Try.prog Try.f11 false true false false) :=
  law_lift started (by kernel_rfl) Try.func11
    (ChangeSpec.witness6 (enc := enc) (C := Try.checked) false ⟨#[], #[.agg #[.int .u32 0, .int .i64 0, .int .u32 0, .int .i64 0, .slice none 0 0], .int .i64 0, .int .u8 0], []⟩ 8 (by kernel_rfl) (by kernel_rfl) (by kernel_rfl) (by kernel_rfl))
    rfl rfl Try.underlying4 (by kernel_rfl) (fun ds h => match ds, h with | [_, _, _], _ => rfl)
    (fun W base args ds p hval hA hsz => by
      rw [Try.params11] at hA hval
      obtain ⟨v0, v1, v2, d0, d1, d2, p0, p1, p2, rfl, rfl, rfl, h0, h1, h2⟩ := trodAll_three hA
      obtain ⟨fr, frp, to_, top, A, l, c, rfl, hk, hb, hl⟩ := open_dgram (hval 0 37 v0 rfl rfl) h0
      obtain ⟨n1, rfl, a0, a1⟩ := open_i64 (hval 1 3 v1 rfl rfl) h1
      obtain ⟨n2, rfl, a2, a3⟩ := open_byte (hval 2 5 v2 rfl rfl) h2
      exact udpTurned_walk fr frp to_ top A l c n1 n2 W hk hb (by unfold maxLen at hl; omega) a2 a3 a0 a1)
theorem udpTurned_holds : Rows.UDPTurnedSaid :=
  OpenClaim.holds_of_wide 11 Try.f11 rfl rfl rfl rfl rfl rfl rfl ⟨rfl, rfl, rfl, rfl, rfl⟩ rfl rfl rfl rfl rfl (by kernel_rfl) Try.func11 (by kernel_rfl)
    (of_decide_eq_true (by kernel_rfl)) (by unfold Func.isWrapper; rw [if_neg (of_decide_eq_false (by kernel_rfl))]; exact ⟨rfl, rfl⟩)
    (fun os started H enc _ => udpTurned_lifted os started H enc)
end Go.Proofs.Ytbhplleaokncpaa
