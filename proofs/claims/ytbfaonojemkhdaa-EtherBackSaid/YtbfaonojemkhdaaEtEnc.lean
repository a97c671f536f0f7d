/-
  A frame's bytes are its addresses, its kind, its data, and noughts up to sixty. No conditions.
-/
import Derived.Test.YtbfaonojemkhdaaREnc
import Derived.Test.YtbfaonojemkhdaaHelp4
import Derived.Test.YtbfaonojemkhdaaMacK
import Derived.Test.YtbfaonojemkhdaaOpen
set_option linter.unusedVariables false
namespace Go.Proofs.Ytbfaonojemkhdaa
open Go.ChangeShapes Go.WideShapes Go.ChangeAt Go.RowKit

def encF (to fr : Mac) (k : Int) (l : List UInt8) : List UInt8 × Int := if k < 1536 ∨ 65535 < k then ([], 1) else if 1500 < l.length then ([], 5) else (encOk to fr k l, 0)
theorem encF_len (to fr : Mac) (k : Int) (l : List UInt8) : (encF to fr k l).1.length ≤ 1600 := by
  unfold encF
  (repeat' split) <;> simp [encOk_len]
  omega
theorem encode_any (to fr : Mac) (k : Int) (A : Option Addr) (l le : List UInt8) (n c : Nat) (x : Int) (w : World) (hb : Bytes w A l) (hn : n = l.length) (h : Hid (encF to fr k l = (le, x))) :
    Calls Try.prog 19 #[frV to fr k (.slice A n c)] w fun e w' => ∃ v, e = .returned (.tuple #[v, .int .i64 x]) ∧ IsRow w w' le v := by
  subst hn
  have h := h.out
  unfold encF at h
  by_cases h1 : k < 1536 ∨ 65535 < k
  · rw [if_pos h1] at h
    cases h
    exact (encode_arg to fr k A l c w hb h1).mono fun e w' h => ⟨_, h.1, World.ownsRow_nil _ _ _ _, h.2⟩
  · rw [if_neg h1] at h
    by_cases h2 : 1500 < l.length
    · rw [if_pos h2] at h
      cases h
      exact (encode_long to fr k A l c w hb h1 h2).mono fun e w' h => ⟨_, h.1, World.ownsRow_nil _ _ _ _, h.2⟩
    · rw [if_neg h2] at h
      cases h
      exact encode_ok to fr k A l c w hb h1 (by omega)
theorem rencode_any (to fr : Mac) (k : Int) (A : Option Addr) (l le : List UInt8) (n c : Nat) (x : Int) (w : World) (hb : Bytes w A l) (hn : n = l.length) (h : Hid (encF to fr k l = (le, x))) :
    Calls Try.prog 20 #[frV to fr k (.slice A n c)] w fun e w' => ∃ v, e = .returned (.tuple #[v, .int .i64 x]) ∧ IsRow w w' le v := by
  subst hn
  have h := h.out
  unfold encF at h
  by_cases h1 : k < 1536 ∨ 65535 < k
  · rw [if_pos h1] at h
    cases h
    exact (rencode_arg to fr k A l c w hb h1).mono fun e w' h => ⟨_, h.1, World.ownsRow_nil _ _ _ _, h.2⟩
  · rw [if_neg h1] at h
    by_cases h2 : 1500 < l.length
    · rw [if_pos h2] at h
      cases h
      exact (rencode_long to fr k A l c w hb h1 h2).mono fun e w' h => ⟨_, h.1, World.ownsRow_nil _ _ _ _, h.2⟩
    · rw [if_neg h2] at h
      cases h
      exact rencode_ok to fr k A l c w hb h1 (by omega)
set_option maxHeartbeats 1000000 in
theorem etherEncodes_walk (to fr : Mac) (k : Int) (A : Option Addr) (l : List UInt8) (c : Nat) (w : World) (hb : Bytes w A l) (hl : l.length ≤ 9223372036854775807) :
    Calls Try.prog 6 #[frV to fr k (.slice A l.length c)] w fun e w' => e = .returned (.bool true) ∧ Below w.heap.size w w' := by
  obtain ⟨le, x, he⟩ : ∃ le x, encF to fr k l = (le, x) := ⟨_, _, rfl⟩
  have hle := encF_len to fr k l
  rw [he] at hle
  have HE := Lib.hid he; clear he
  unfold frV
  by_cases h2 : 2000 < (l.length : Int)
  · go_enter Try.func6, Try.ntmps6
    go_wp2
    go_ret
    exact ⟨rfl, al (rf w) _⟩
  · have B0 := Blk.new w 41 #[.int .u8 to.a.toNat, .int .u8 to.b.toNat, .int .u8 to.c.toNat, .int .u8 to.d.toNat, .int .u8 to.e.toNat, .int .u8 to.f.toNat, .int .u8 fr.a.toNat, .int .u8 fr.b.toNat, .int .u8 fr.c.toNat, .int .u8 fr.d.toNat, .int .u8 fr.e.toNat, .int .u8 fr.f.toNat, .int .i64 k, .slice A l.length c]
    go_enter Try.func6, Try.ntmps6
    go_wp2_with fail
    refine (roomy _ A l _ c (hb.al _) rfl (by omega)).mono ?_
    rintro e w1 ⟨g, cap, rfl, hg, hr, hb1⟩
    have B1 := B0.nx hb1
    have c13 := B1.cell 13
    simp only [List.getElem?_toArray, List.getElem?_cons_succ, List.getElem?_cons_zero] at c13
    have i1 : (l.length : Int) ≤ cap := by have := hr.1; omega
    have i2 : l.length ≤ cap := by have := hr.1; omega
    have C13 := fun o => (B1.alloc o).cell 13
    simp only [List.getElem?_toArray, List.getElem?_cons_succ, List.getElem?_cons_zero] at C13
    go_wp2_with (refine wpList_load_row rfl 41 (.tmp 1) rfl _ rfl _ _ _ _ B1 Try.underlying41 rfl (by kernel_rfl) ?_)
    clear C13 c13
    refine (encode_any to fr k _ l le _ _ x _ ((hr.bytes).al _) rfl HE).mono ?_
    rintro e w2 ⟨v2, rfl, hr2⟩
    obtain ⟨A2, n2, c2, rfl, HN2⟩ := hr2.slice
    have B2 := (B1.alloc (.cells #[.int .u8 to.a.toNat, .int .u8 to.b.toNat, .int .u8 to.c.toNat, .int .u8 to.d.toNat, .int .u8 to.e.toNat, .int .u8 to.f.toNat, .int .u8 fr.a.toNat, .int .u8 fr.b.toNat, .int .u8 fr.c.toNat, .int .u8 fr.d.toNat, .int .u8 fr.e.toNat, .int .u8 fr.f.toNat, .int .i64 k, .slice (some ⟨g, 0, none⟩) l.length cap] 41)).nx hr2.2
    have bw2 : Below w.heap.size w w2 := nx (al (nx (al (rf w) _) hb1) _) hr2.2
    go_wp2_with (refine wpList_load_row rfl 41 (.tmp 1) rfl _ rfl _ _ _ _ B2 Try.underlying41 rfl (by kernel_rfl) ?_)
    refine (rencode_any to fr k _ l le _ _ x _ (hb.nx bw2) rfl HE).mono ?_
    rintro e w3 ⟨v3, rfl, hr3⟩
    obtain ⟨A3, n3, c3, rfl, HN3⟩ := hr3.slice
    have B3 := B2.nx hr3.2
    have hxx : ((x : Int) != x) = false := by simp
    have e2 : Bytes w3 A2 le := (by have h := hr2.1; rw [HN2.out] at h; exact Bytes.own h : Bytes w2 A2 le).nx hr3.2
    have e3 : Bytes w3 A3 le := by have h := hr3.1; rw [HN3.out] at h; exact Bytes.own h
    go_wp2_with fail
    refine (same_ _ _ _ le le _ _ _ _ e2 e3 HN2.out HN3.out (by omega) (by omega)).mono ?_
    rintro e w4 ⟨rfl, hb4⟩
    rw [show (le == le) = true by simp]
    have B4 := B3.nx hb4
    have c13 := B4.cell 13
    simp only [List.getElem?_toArray, List.getElem?_cons_succ, List.getElem?_cons_zero] at c13
    have bw4 : Below w.heap.size w w4 := nx (nx bw2 hr3.2) hb4
    have hr4 : Roomy w4 g cap l := (((hr.nx (al (rf w1) _)).nx hr2.2).nx hr3.2).nx hb4
    go_wp2_with fail
    refine (stands _ A l _ g cap c hr4 (hb.nx bw4) rfl (by omega)).mono ?_
    rintro e w5 ⟨rfl, hb5⟩
    have B5 := B4.nx hb5
    have bw5 := nx bw4 hb5
    have hr5 := hr4.nx hb5
    go_wp2_with fail
    have own2 : w5.ownsRow (w1.heap.size + 1) 5 1 (.slice A2 n2 c2) n2 (Lib.byteCells le) := by
      have h := own_nx (own_nx (own_nx hr2.1 hr3.2) hb4) hb5
      rw [← HN2.out] at h
      exact own_base h (by simp)
    refine (spoil _ A2 n2 c2 _ own2 (by rw [HN2.out]; omega) (by have := hr2.2.size; have := hr3.2.size; have := hb4.size; have := hb5.size; simp at *; omega)).mono ?_
    rintro e w6 ⟨rfl, hb6⟩
    have B6 := B5.below hb6 (by have := B1.lt; omega)
    have c13' := B6.cell 13
    simp only [List.getElem?_toArray, List.getElem?_cons_succ, List.getElem?_cons_zero] at c13'
    have bw6 : Below w.heap.size w w6 := bw5.trans (hb6.mono (by have := hb1.size; simp at this; omega))
    have hr6 : Roomy w6 g cap l := hr5.below hb6 (by have := hr.2.2.1; omega)
    go_wp2_with fail
    refine (stands _ A l _ g cap c hr6 (hb.nx bw6) rfl (by omega)).mono ?_
    rintro e w7 ⟨rfl, hb7⟩
    go_wp2_with fail
    refine (known _).mono ?_
    rintro e w8 ⟨rfl, hb8⟩
    go_wp2
    go_ret
    exact ⟨rfl, nx (nx bw6 hb7) hb8⟩

-- a frame that came in, opened
theorem mac_of {xs : List Int} (hl : xs.length = 6) (hw : ∀ i ∈ xs, (Lit.int .u8 i).wf = true) : ∃ m : Mac, xs = [(m.a.toNat : Int), m.b.toNat, m.c.toNat, m.d.toNat, m.e.toNat, m.f.toNat] := by
  match xs, hl with
  | [a, b, c, d, e, f], _ =>
    have ha := wf_u8 (hw a (by simp)); have hb := wf_u8 (hw b (by simp)); have hc := wf_u8 (hw c (by simp)); have hd := wf_u8 (hw d (by simp)); have he := wf_u8 (hw e (by simp)); have hf := wf_u8 (hw f (by simp))
    refine ⟨⟨u8 a, u8 b, u8 c, u8 d, u8 e, u8 f⟩, ?_⟩
    simp only [u8_nat _ ha.1 ha.2, u8_nat _ hb.1 hb.2, u8_nat _ hc.1 hc.2, u8_nat _ hd.1 hd.2, u8_nat _ he.1 he.2, u8_nat _ hf.1 hf.2]
theorem open_frame {H : Type} {enc : TypeId × Value → H} {w : World} {base b0 : Nat} {r : Reach} {sp : Nat → Bool} {held : Bool} {v : Value} {d : DataW H} {p : List MemPlace}
    (hv : Value.okWide Try.prog w r b0 41 v) (h : DataW.Trod enc Try.prog w base sp held 41 v d p) : ∃ to fr k A l c, v = frV to fr k (.slice A l.length c) ∧ Bytes w A l ∧ l.length ≤ maxLen := by
  obtain ⟨cs, rfl, hsz⟩ := okWide_struct Try.underlying41 hv
  obtain ⟨fuel, hf⟩ := h
  obtain ⟨xs, n, _, _, hcl, hxl, hg⟩ := DataW.trod_struct Try.underlying41 hf
  have c41 : Try.prog.cellsOf 41 = 14 := by kernel_rfl
  have c23 : Try.prog.cellsOf 23 = 6 := by kernel_rfl
  have c3 : Try.prog.cellsOf 3 = 1 := by kernel_rfl
  have c39 : Try.prog.cellsOf 39 = 1 := by kernel_rfl
  have g0 := hg 0 _ rfl
  have g1 := hg 1 _ rfl
  have g2 := hg 2 _ rfl
  have g3 := hg 3 _ rfl
  simp only [Value.cells] at g0 g1 g2 g3
  obtain ⟨l⟩ := cs
  rw [c41] at hsz
  match l, hsz with
  | [x0, x1, x2, x3, x4, x5, x6, x7, x8, x9, x10, x11, x12, x13], _ =>
    rw [List.getElem?_eq_getElem (show 0 < xs.length by rw [hxl]; decide)] at g0
    rw [List.getElem?_eq_getElem (show 1 < xs.length by rw [hxl]; decide)] at g1
    rw [List.getElem?_eq_getElem (show 2 < xs.length by rw [hxl]; decide)] at g2
    rw [List.getElem?_eq_getElem (show 3 < xs.length by rw [hxl]; decide)] at g3
    obtain ⟨ys, h1, h2, h3⟩ := trod_ints Try.underlying23 Try.underlying5 (by kernel_rfl) c23 g0
    obtain ⟨zs, h4, h5, h6⟩ := trod_ints Try.underlying23 Try.underlying5 (by kernel_rfl) c23 g1
    obtain ⟨k, h7, _, _⟩ := DataW.trod_int Try.underlying3 g2
    obtain ⟨A, dl, c, h8, h9, h10⟩ := trod_bytes g3
    obtain ⟨to, rfl⟩ := mac_of h2 h3
    obtain ⟨fr, rfl⟩ := mac_of h5 h6
    simp at h1 h4
    simp [c3] at h7
    simp [c39] at h8
    obtain ⟨rfl, rfl, rfl, rfl, rfl, rfl⟩ := h1
    obtain ⟨rfl, rfl, rfl, rfl, rfl, rfl⟩ := h4
    subst h7 h8
    exact ⟨to, fr, k, A, dl, c, rfl, h9, h10⟩

set_option maxRecDepth 100000 in
theorem etherEncodes_lifted (os : Os) (started : os.Started) (H : Type) (enc : TypeId × Value → H) :
    ReturnsInHanded {} Try.checked os 6 .any (Rows.etherEncodesSpec.pre6 enc Try.prog Try.f6 Rows.etherEncodesRow.domain false) (Rows.etherEncodesSpec.post enc Try.prog Try.f6 false true false false) :=
  law_lift started (by kernel_rfl) Try.func6
    (ChangeSpec.witness6 (enc := enc) (C := Try.checked) false ⟨#[], #[.agg #[.int .u8 0, .int .u8 0, .int .u8 0, .int .u8 0, .int .u8 0, .int .u8 0, .int .u8 0, .int .u8 0, .int .u8 0, .int .u8 0, .int .u8 0, .int .u8 0, .int .i64 0, .slice none 0 0]], []⟩ 8 (by kernel_rfl) (by kernel_rfl) (by kernel_rfl) (by kernel_rfl))
    rfl rfl Try.underlying4 (by kernel_rfl) (fun ds h => match ds, h with | [_], _ => rfl)
    (fun W base args ds p hval hA hsz => by
      rw [Try.params6] at hA hval
      obtain ⟨v0, d0, rfl, rfl, h0⟩ := trodAll_one hA
      obtain ⟨to, fr, k, A, l, c, rfl, hb, hl⟩ := open_frame (hval 0 41 v0 rfl rfl) h0
      exact etherEncodes_walk to fr k A l c W hb (by unfold maxLen at hl; omega))

theorem etherEncodes_holds : Rows.EtherEncodesSaid :=
  OpenClaim.holds_of_wide 6 Try.f6 rfl rfl rfl rfl rfl rfl rfl ⟨rfl, rfl, rfl, rfl, rfl⟩ rfl rfl rfl rfl rfl (by kernel_rfl) Try.func6 (by kernel_rfl)
    (of_decide_eq_true (by kernel_rfl)) (by unfold Func.isWrapper; rw [if_neg (of_decide_eq_false (by kernel_rfl))]; exact ⟨rfl, rfl⟩)
    (fun os started H enc _ => etherEncodes_lifted os started H enc)
end Go.Proofs.Ytbfaonojemkhdaa
