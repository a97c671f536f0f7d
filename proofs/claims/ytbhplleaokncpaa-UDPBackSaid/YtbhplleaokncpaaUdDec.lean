/-
  UDPDecodes: any bytes are a datagram, or refused for the first reason of all. No conditions.
-/
import Derived.Test.YtbhplleaokncpaaUdD2
import Derived.Test.YtbhplleaokncpaaUdLaw
set_option linter.unusedVariables false
namespace Go.Proofs.Ytbhplleaokncpaa
open Go.ChangeShapes Go.WideShapes Go.ChangeAt Go.RowKit
set_option maxRecDepth 100000

-- both Decodes by one rule
def dF (fr to_ : Int) (l : List UInt8) (v : Int) : Int := if whyU fr to_ l = 0 then v else 0
def dD (fr to_ : Int) (l : List UInt8) : List UInt8 := if whyU fr to_ l = 0 then (l.take (at2 l 4)).drop 8 else []
def RdP (w w' : World) (e : Ending) (f g h i : Int) (D : List UInt8) (x : Int) : Prop :=
  ∃ A' n' c', e = .returned (.tuple #[dgV f g h i (.slice A' n' c'), .int .i64 x]) ∧ (Bytes w' A' D ∧ Below w.heap.size w w') ∧ Hid (n' = D.length)
theorem RdP.bad {w w' : World} {e : Ending} {x : Int} (he : e = .returned (.tuple #[zDg, .int .i64 x])) (h : Below w.heap.size w w') : RdP w w' e 0 0 0 0 [] x :=
  ⟨none, 0, 0, he, ⟨Bytes.nil _ _, h⟩, rfl⟩
theorem dF_bad {fr to_ : Int} {l : List UInt8} {x : Int} (h : whyU fr to_ l = x) (h0 : x ≠ 0) : (∀ v, dF fr to_ l v = 0) ∧ dD fr to_ l = [] := by
  subst h
  exact ⟨fun v => if_neg h0, if_neg h0⟩
theorem dF_ok {fr to_ : Int} {l : List UInt8} (h : whyU fr to_ l = 0) : (∀ v, dF fr to_ l v = v) ∧ dD fr to_ l = (l.take (at2 l 4)).drop 8 := ⟨fun v => if_pos h, if_pos h⟩
theorem dD_len (fr to_ : Int) (l : List UInt8) : (dD fr to_ l).length ≤ l.length := by
  unfold dD; split <;> simp [List.length_drop, List.length_take]; omega
theorem udd_all (fr to_ : Int) (A : Option Addr) (l : List UInt8) (n c : Nat) (w : World) (hk : okA fr to_) (hb : Bytes w A l) (hn : n = l.length) (hc : l.length ≤ c) (hl : l.length ≤ 1000000) :
    Calls Try.prog 25 #[.int .u32 fr, .int .u32 to_, .slice A n c] w fun e w' => UdP w w' e (dF fr to_ l fr) (dF fr to_ l (at2 l 0)) (dF fr to_ l to_) (dF fr to_ l (at2 l 2)) (dD fr to_ l) (whyU fr to_ l) := by
  subst hn
  obtain ⟨f0, f1, t0, t1⟩ := hk
  by_cases h8 : l.length < 8
  · have hw : whyU fr to_ l = 2 := if_pos h8
    obtain ⟨d1, d2⟩ := dF_bad hw (by decide)
    rw [d1, d1, d1, d1, d2, hw]
    obtain ⟨p1, p2, p3, p4, l1, l2, l3, l4, e1, e2, e3, Q⟩ := qs_short l h8
    exact udd_any 2 _ p1 p2 p3 p4 l1 l2 l3 l4 e1 e2 e3 2 fr to_ A l c w hb hl hc Q 0 0 0 0 [] rfl (.inl ⟨.inl ⟨rfl, rfl⟩, rfl, rfl, rfl, rfl, rfl⟩) f0 f1 t0 t1
  have Q := qs_ok l (by omega)
  by_cases h4 : at2 l 4 < 8
  · have hw : whyU fr to_ l = 3 := by unfold whyU; rw [if_neg h8, if_pos h4]
    obtain ⟨d1, d2⟩ := dF_bad hw (by decide)
    rw [d1, d1, d1, d1, d2, hw]
    exact udd_any 3 _ _ _ _ _ _ _ _ _ _ _ _ _ fr to_ A l c w hb hl hc Q 0 0 0 0 [] rfl (.inl ⟨.inr (.inl ⟨rfl, rfl, h4⟩), rfl, rfl, rfl, rfl, rfl⟩) f0 f1 t0 t1
  by_cases hn : l.length < at2 l 4
  · have hw : whyU fr to_ l = 2 := by unfold whyU; rw [if_neg h8, if_neg h4, if_pos hn]
    obtain ⟨d1, d2⟩ := dF_bad hw (by decide)
    rw [d1, d1, d1, d1, d2, hw]
    exact udd_any 2 _ _ _ _ _ _ _ _ _ _ _ _ _ fr to_ A l c w hb hl hc Q 0 0 0 0 [] rfl (.inl ⟨.inr (.inr (.inl ⟨rfl, rfl, by omega, hn⟩)), rfl, rfl, rfl, rfl, rfl⟩) f0 f1 t0 t1
  by_cases hs : at2 l 6 ≠ 0 ∧ sumU fr to_ (l.take (at2 l 4)) ≠ 0
  · have hw : whyU fr to_ l = 4 := by unfold whyU; rw [if_neg h8, if_neg h4, if_neg hn, if_pos hs]
    obtain ⟨d1, d2⟩ := dF_bad hw (by decide)
    rw [d1, d1, d1, d1, d2, hw]
    exact udd_any 4 _ _ _ _ _ _ _ _ _ _ _ _ _ fr to_ A l c w hb hl hc Q 0 0 0 0 [] rfl (.inl ⟨.inr (.inr (.inr ⟨rfl, rfl, by omega, by omega, hs.1, hs.2⟩)), rfl, rfl, rfl, rfl, rfl⟩) f0 f1 t0 t1
  · have hw : whyU fr to_ l = 0 := by unfold whyU; rw [if_neg h8, if_neg h4, if_neg hn, if_neg hs]
    obtain ⟨d1, d2⟩ := dF_ok hw
    rw [d1, d1, d1, d1, d2, hw]
    have hs' : at2 l 6 = 0 ∨ at2 l 6 ≠ 0 ∧ sumU fr to_ (l.take (at2 l 4)) = 0 := by
      by_cases h6 : at2 l 6 = 0
      · exact .inl h6
      · exact .inr ⟨h6, Decidable.byContradiction fun h => hs ⟨h6, h⟩⟩
    exact udd_any 0 _ _ _ _ _ _ _ _ _ _ _ _ _ fr to_ A l c w hb hl hc Q fr _ to_ _ _ rfl (.inr ⟨rfl, rfl, by omega, by omega, hs', rfl, rfl, rfl, rfl, rfl, rfl⟩) f0 f1 t0 t1
theorem rud_all (fr to_ : Int) (A : Option Addr) (l : List UInt8) (n c : Nat) (w : World) (hk : okA fr to_) (hb : Bytes w A l) (hn : n = l.length) (hc : l.length ≤ c) (hl : l.length ≤ 70000) :
    Calls Try.prog 26 #[.int .u32 fr, .int .u32 to_, .slice A n c] w fun e w' => RdP w w' e (dF fr to_ l fr) (dF fr to_ l (at2 l 0)) (dF fr to_ l to_) (dF fr to_ l (at2 l 2)) (dD fr to_ l) (whyU fr to_ l) := by
  subst hn
  obtain ⟨f0, f1, t0, t1⟩ := hk
  by_cases h8 : l.length < 8
  · have hw : whyU fr to_ l = 2 := if_pos h8
    obtain ⟨d1, d2⟩ := dF_bad hw (by decide)
    rw [d1, d1, d1, d1, d2, hw]
    exact (rud_short fr to_ A l c w h8).mono fun e w' h => RdP.bad h.1 h.2
  by_cases h4 : at2 l 4 < 8
  · have hw : whyU fr to_ l = 3 := by unfold whyU; rw [if_neg h8, if_pos h4]
    obtain ⟨d1, d2⟩ := dF_bad hw (by decide)
    rw [d1, d1, d1, d1, d2, hw]
    exact (rud_form _ fr to_ A l c w hb (by omega) hl rfl h4).mono fun e w' h => RdP.bad h.1 h.2
  by_cases hn : l.length < at2 l 4
  · have hw : whyU fr to_ l = 2 := by unfold whyU; rw [if_neg h8, if_neg h4, if_pos hn]
    obtain ⟨d1, d2⟩ := dF_bad hw (by decide)
    rw [d1, d1, d1, d1, d2, hw]
    exact (rud_cut _ fr to_ A l c w hb (by omega) hl rfl (by omega) hn).mono fun e w' h => RdP.bad h.1 h.2
  by_cases hs : at2 l 6 ≠ 0 ∧ sumU fr to_ (l.take (at2 l 4)) ≠ 0
  · have hw : whyU fr to_ l = 4 := by unfold whyU; rw [if_neg h8, if_neg h4, if_neg hn, if_pos hs]
    obtain ⟨d1, d2⟩ := dF_bad hw (by decide)
    rw [d1, d1, d1, d1, d2, hw]
    exact (rud_sum _ _ _ fr to_ A l c w hb (by omega) hl hc rfl rfl rfl (by omega) (by omega) hs.1 hs.2 f0 f1 t0 t1).mono fun e w' h => RdP.bad h.1 h.2
  · have hw : whyU fr to_ l = 0 := by unfold whyU; rw [if_neg h8, if_neg h4, if_neg hn, if_neg hs]
    obtain ⟨d1, d2⟩ := dF_ok hw
    rw [d1, d1, d1, d1, d2, hw]
    have hs' : at2 l 6 = 0 ∨ at2 l 6 ≠ 0 ∧ sumU fr to_ (l.take (at2 l 4)) = 0 := by
      by_cases h6 : at2 l 6 = 0
      · exact .inl h6
      · exact .inr ⟨h6, Decidable.byContradiction fun h => hs ⟨h6, h⟩⟩
    exact rud_ok _ _ _ _ fr to_ A l c w hb (by omega) hl hc rfl rfl rfl rfl (by omega) (by omega) hs' f0 f1 t0 t1
set_option maxHeartbeats 800000 in
theorem grams_same (f g h i : Int) (w : World) (A B : Option Addr) (l : List UInt8) (n1 n2 c d : Nat) (ha : Bytes w A l) (hb : Bytes w B l) (h1 : n1 = l.length) (h2 : n2 = l.length) (hl : l.length ≤ 1099511627776) :
    Calls Try.prog 27 #[dgV f g h i (.slice A n1 c), dgV f g h i (.slice B n2 d)] w fun e w' => e = .returned (.bool true) ∧ Below w.heap.size w w' := by
  subst h1 h2
  unfold dgV
  go_enter Try.func27, Try.ntmps27
  go_wp2_with fail
  refine (same_ _ A B l l _ _ c d (by exact ha.nx (al (al (rf w) _) _)) (by exact hb.nx (al (al (rf w) _) _)) rfl rfl hl hl).mono ?_
  rintro e w1 ⟨rfl, hb1⟩
  rw [show (l == l) = true by simp]
  go_wp2
  go_ret
  exact ⟨rfl, nx (al (al (rf w) _) _) hb1⟩
def DecsU (F : FuncId) (P : World → World → Ending → Prop) (fr to_ : Int) (l : List UInt8) : Prop := ∀ (A : Option Addr) (n c : Nat) (W : World), Bytes W A l → n = l.length → l.length ≤ c →
  Calls Try.prog F #[.int .u32 fr, .int .u32 to_, .slice A n c] W fun e w' => P W w' e
set_option maxHeartbeats 1600000 in
theorem udpDecodes_walk (fr to_ : Int) (A : Option Addr) (l : List UInt8) (c : Nat) (w : World) (hk : okA fr to_) (hb : Bytes w A l) (hc : l.length ≤ c) (hl : l.length ≤ 9223372036854775807) :
    Calls Try.prog 9 #[.int .u32 fr, .int .u32 to_, .slice A l.length c] w fun e w' => e = .returned (.bool true) ∧ Below w.heap.size w w' := by
  by_cases h2 : 70000 < (l.length : Int)
  · go_enter Try.func9, Try.ntmps9
    go_wp2
    go_ret
    exact ⟨rfl, rf w⟩
  · obtain ⟨f, g, h, i, D, x, hdd, D1, D2⟩ : ∃ f g h i D x, D.length ≤ 70000 ∧ DecsU 25 (fun w w' e => UdP w w' e f g h i D x) fr to_ l ∧ DecsU 26 (fun w w' e => RdP w w' e f g h i D x) fr to_ l :=
      ⟨_, _, _, _, _, _, (by have := dD_len fr to_ l; omega), fun A n c W h hn hc => udd_all fr to_ A l n c W hk h hn hc (by omega), fun A n c W h hn hc => rud_all fr to_ A l n c W hk h hn hc (by omega)⟩
    go_enter Try.func9, Try.ntmps9
    go_wp2_with fail
    refine (roomy _ A l _ c hb rfl (by omega)).mono ?_
    rintro e w1 ⟨gb, cap, rfl, hg, hr, hb1⟩
    have i1 : (l.length : Int) ≤ cap := by have := hr.1; omega
    have i2 : l.length ≤ cap := by have := hr.1; omega
    go_wp2_with fail
    refine (D1 _ _ _ _ (hr.bytes) rfl i2).mono ?_
    rintro e w2 ⟨A2, n2, c2, rfl, hr2, hn2⟩
    unfold dgV
    have bw2 : Below w.heap.size w w2 := nx hb1 hr2.2
    go_wp2_with fail
    refine (D2 _ _ _ _ (hb.nx (al bw2 _)) rfl hc).mono ?_
    rintro e w3 ⟨A3, n3, c3, rfl, hr3, hn3⟩
    unfold dgV
    have hxx : ((x : Int) != x) = false := by simp
    have F2 := (Blk.new w2 37 #[.int .u32 f, .int .i64 g, .int .u32 h, .int .i64 i, .slice A2 n2 c2]).nx hr3.2
    have F3 := Blk.new w3 37 #[.int .u32 f, .int .i64 g, .int .u32 h, .int .i64 i, .slice A3 n3 c3]
    have C2 := F2.alloc (.cells #[.int .u32 f, .int .i64 g, .int .u32 h, .int .i64 i, .slice A3 n3 c3] 37)
    have bw3 : Below w.heap.size w w3 := nx (al bw2 _) hr3.2
    have e2 : Bytes w3 A2 D := (by have h := hr2.1; rw [hn2.out] at h; exact Bytes.own h : Bytes w2 A2 D).nx (nx (al (rf w2) _) hr3.2)
    have e3 : Bytes w3 A3 D := hr3.1
    have hr3' : Roomy w3 gb cap l := (hr.nx hr2.2).nx (nx (al (rf w2) _) hr3.2)
    go_wp2_with (first | (refine wpList_load_row rfl 37 (.tmp 8) rfl _ rfl _ _ _ _ C2 Try.underlying37 rfl (by kernel_rfl) ?_) | (refine wpList_load_row rfl 37 (.tmp 10) rfl _ rfl _ _ _ _ F3 Try.underlying37 rfl (by kernel_rfl) ?_))
    refine (grams_same f g h i _ A2 A3 D _ _ c2 c3 (by exact e2.nx (al (rf w3) _)) (by exact e3.nx (al (rf w3) _)) hn2.out hn3.out (by omega)).mono ?_
    rintro e w4 ⟨rfl, hb4⟩
    have bw4 : Below w.heap.size w w4 := nx (al bw3 _) hb4
    have hr4 : Roomy w4 gb cap l := (hr3'.nx (al (rf w3) _)).nx hb4
    have D4 := C2.nx hb4
    have c13 : w4.cell? ⟨w2.heap.size, 4, none⟩ = some (.slice A2 n2 c2) := D4.cell 4
    go_wp2_with fail
    have own2 : w4.ownsRow (w1.heap.size) 5 1 (.slice A2 n2 c2) n2 (Lib.byteCells D) := by
      have h := own_nx (own_nx (own_nx hr2.1 (nx (al (rf w2) _) hr3.2)) (al (rf w3) (.cells #[.int .u32 f, .int .i64 g, .int .u32 h, .int .i64 i, .slice A3 n3 c3] 37))) hb4
      rw [← hn2.out] at h
      exact h
    refine (spoil _ A2 n2 c2 _ own2 (by rw [hn2.out]; omega) (by have := hr2.2.size; have := hr3.2.size; have := hb4.size; simp at *; omega)).mono ?_
    rintro e w6 ⟨rfl, hb6⟩
    have bw6 : Below w.heap.size w w6 := bw4.trans (hb6.mono hb1.size)
    have hr6 : Roomy w6 gb cap l := hr4.below hb6 (by have := hr.2.2.1; omega)
    go_wp2_with fail
    refine (stands _ A l _ gb cap c hr6 (hb.nx bw6) rfl (by omega)).mono ?_
    rintro e w7 ⟨rfl, hb7⟩
    go_wp2_with fail
    refine (known _).mono ?_
    rintro e w8 ⟨rfl, hb8⟩
    go_wp2
    go_ret
    exact ⟨rfl, nx (nx bw6 hb7) hb8⟩
theorem open_addr {H : Type} {enc : TypeId × Value → H} {w : World} {base b0 : Nat} {r : Reach} {sp : Nat → Bool} {held : Bool} {v : Value} {d : DataW H} {p : List MemPlace}
    (hv : Value.okWide Try.prog w r b0 23 v) (h : DataW.Trod enc Try.prog w base sp held 23 v d p) : ∃ n, v = .int .u32 n ∧ 0 ≤ n ∧ n ≤ 4294967295 := by
  obtain ⟨k, rfl⟩ := okWide_int Try.underlying23 hv
  obtain ⟨fuel, hf⟩ := h
  obtain ⟨n, h1, h2, h3⟩ := trod_u32 Try.underlying23 hf
  simp [Value.cells] at h1
  subst h1
  exact ⟨_, rfl, h2, h3⟩
set_option maxRecDepth 100000 in
theorem udpDecodes_lifted (os : Os) (started : os.Started) (H : Type) (enc : TypeId × Value → H) :
    ReturnsInHanded {} Try.checked os 9 .any (Rows.uDPDecodesSpec.pre6 enc Try.prog Try.f9 Rows.uDPDecodesRow.domain false) (Rows.uDPDecodesSpec.post enc Try.prog Try.f9 false true false false) :=
  law_lift started (by kernel_rfl) Try.func9
    (ChangeSpec.witness6 (enc := enc) (C := Try.checked) false ⟨#[], #[.int .u32 0, .int .u32 0, .slice none 0 0], []⟩ 8 (by kernel_rfl) (by kernel_rfl) (by kernel_rfl) (by kernel_rfl))
    rfl rfl Try.underlying4 (by kernel_rfl) (fun ds h => match ds, h with | [_, _, _], _ => rfl)
    (fun W base args ds p hval hA hsz => by
      rw [Try.params9] at hA hval
      obtain ⟨v0, v1, v2, d0, d1, d2, p0, p1, p2, rfl, rfl, rfl, h0, h1, h2⟩ := trodAll_three hA
      obtain ⟨n0, rfl, a0, a1⟩ := open_addr (hval 0 23 v0 rfl rfl) h0
      obtain ⟨n1, rfl, a2, a3⟩ := open_addr (hval 1 23 v1 rfl rfl) h1
      obtain ⟨A, l, c, rfl, hb, hl, hc⟩ := open_bytes2 (hval 2 35 v2 rfl rfl) h2
      exact udpDecodes_walk n0 n1 A l c W ⟨a0, a1, a2, a3⟩ hb hc (by unfold maxLen at hl; omega))
theorem udpDecodes_holds : Rows.UDPDecodesSaid :=
  OpenClaim.holds_of_wide 9 Try.f9 rfl rfl rfl rfl rfl rfl rfl ⟨rfl, rfl, rfl, rfl, rfl⟩ rfl rfl rfl rfl rfl (by kernel_rfl) Try.func9 (by kernel_rfl)
    (of_decide_eq_true (by kernel_rfl)) (by unfold Func.isWrapper; rw [if_neg (of_decide_eq_false (by kernel_rfl))]; exact ⟨rfl, rfl⟩)
    (fun os started H enc _ => udpDecodes_lifted os started H enc)
end Go.Proofs.Ytbhplleaokncpaa
