/-
  UDPEncodes: a datagram's bytes are its ports, its length, its sum and its data. No conditions.
-/
import Derived.Test.YtbhplleaokncpaaUdE2
import Derived.Test.YtbhplleaokncpaaUdR2
import Derived.Test.YtbhplleaokncpaaHelp11
import Derived.Test.YtbhplleaokncpaaOpen
import Derived.Test.YtbhplleaokncpaaPmK
set_option linter.unusedVariables false
namespace Go.Proofs.Ytbhplleaokncpaa
open Go.ChangeShapes Go.WideShapes Go.ChangeAt Go.RowKit
set_option maxRecDepth 100000

def encU (fr frp to_ top : Int) (l : List UInt8) : List UInt8 × Int := if (frp < 0 ∨ 65535 < frp) ∨ (top < 0 ∨ 65535 < top) then ([], 1) else if 65507 < l.length then ([], 5) else (udpB frp top l (encS fr frp to_ top l), 0)
theorem encU_len (fr frp to_ top : Int) (l : List UInt8) : (encU fr frp to_ top l).1.length ≤ 70000 := by
  unfold encU
  (repeat' split) <;> simp [udpB_len]
  omega
def okA (fr to_ : Int) : Prop := 0 ≤ fr ∧ fr ≤ 4294967295 ∧ 0 ≤ to_ ∧ to_ ≤ 4294967295
theorem udpEnc_any (fr frp to_ top : Int) (A : Option Addr) (l le : List UInt8) (n c : Nat) (x : Int) (w : World) (hk : okA fr to_) (hb : Bytes w A l) (hn : n = l.length) (hl2 : l.length ≤ 1099511627776) (h : Hid (encU fr frp to_ top l = (le, x))) :
    Calls Try.prog 21 #[.agg #[.int .u32 fr, .int .i64 frp, .int .u32 to_, .int .i64 top, .slice A n c]] w fun e w' => ∃ v, e = .returned (.tuple #[v, .int .i64 x]) ∧ IsRow w w' le v := by
  subst hn
  have h := h.out
  unfold encU at h
  by_cases h1 : (frp < 0 ∨ 65535 < frp) ∨ (top < 0 ∨ 65535 < top)
  · rw [if_pos h1] at h
    cases h
    exact (uenc_arg ⟨fr, frp, to_, top, .slice A l.length c⟩ w h1).mono fun e w' h => ⟨_, h.1, World.ownsRow_nil _ _ _ _, h.2⟩
  · rw [if_neg h1] at h
    by_cases h2 : 65507 < l.length
    · rw [if_pos h2] at h
      cases h
      exact (uenc_long ⟨fr, frp, to_, top, .slice A l.length c⟩ A l c w rfl h1 h2 hl2).mono fun e w' h => ⟨_, h.1, World.ownsRow_nil _ _ _ _, h.2⟩
    · rw [if_neg h2] at h
      cases h
      exact uenc_ok ⟨fr, frp, to_, top, .slice A l.length c⟩ A l c w rfl hb ⟨hk.1, hk.2.1, hk.2.2.1, hk.2.2.2⟩ h1 (by omega)
theorem rudpEnc_any (fr frp to_ top : Int) (A : Option Addr) (l le : List UInt8) (n c : Nat) (x : Int) (w : World) (hk : okA fr to_) (hb : Bytes w A l) (hn : n = l.length) (hl2 : l.length ≤ 1099511627776) (h : Hid (encU fr frp to_ top l = (le, x))) :
    Calls Try.prog 22 #[.agg #[.int .u32 fr, .int .i64 frp, .int .u32 to_, .int .i64 top, .slice A n c]] w fun e w' => ∃ v, e = .returned (.tuple #[v, .int .i64 x]) ∧ IsRow w w' le v := by
  subst hn
  have h := h.out
  unfold encU at h
  by_cases h1 : (frp < 0 ∨ 65535 < frp) ∨ (top < 0 ∨ 65535 < top)
  · rw [if_pos h1] at h
    cases h
    exact (rue_arg ⟨fr, frp, to_, top, .slice A l.length c⟩ w h1).mono fun e w' h => ⟨_, h.1, World.ownsRow_nil _ _ _ _, h.2⟩
  · rw [if_neg h1] at h
    by_cases h2 : 65507 < l.length
    · rw [if_pos h2] at h
      cases h
      exact (rue_long ⟨fr, frp, to_, top, .slice A l.length c⟩ A l c w rfl h1 h2 hl2).mono fun e w' h => ⟨_, h.1, World.ownsRow_nil _ _ _ _, h.2⟩
    · rw [if_neg h2] at h
      cases h
      exact rue_ok ⟨fr, frp, to_, top, .slice A l.length c⟩ A l c w rfl hb ⟨hk.1, hk.2.1, hk.2.2.1, hk.2.2.2⟩ h1 (by omega)
set_option maxHeartbeats 1000000 in
theorem udpEncodes_walk (fr frp to_ top : Int) (A : Option Addr) (l : List UInt8) (c : Nat) (w : World) (hk : Hid (okA fr to_)) (hb : Bytes w A l) (hl : l.length ≤ 9223372036854775807) :
    Calls Try.prog 8 #[.agg #[.int .u32 fr, .int .i64 frp, .int .u32 to_, .int .i64 top, .slice A l.length c]] w fun e w' => e = .returned (.bool true) ∧ Below w.heap.size w w' := by
  obtain ⟨le, x, he⟩ : ∃ le x, encU fr frp to_ top l = (le, x) := ⟨_, _, rfl⟩
  have hle := encU_len fr frp to_ top l
  rw [he] at hle
  have HE := Lib.hid he; clear he
  by_cases h2 : 70000 < (l.length : Int)
  · go_enter Try.func8, Try.ntmps8
    go_wp2
    go_ret
    exact ⟨rfl, al (rf w) _⟩
  · have B0 := Blk.new w 37 #[.int .u32 fr, .int .i64 frp, .int .u32 to_, .int .i64 top, .slice A l.length c]
    go_enter Try.func8, Try.ntmps8
    go_wp2_with fail
    refine (roomy _ A l _ c (hb.al _) rfl (by omega)).mono ?_
    rintro e w1 ⟨g, cap, rfl, hg, hr, hb1⟩
    have B1 := B0.nx hb1
    have c13 := B1.cell 4
    simp only [List.getElem?_toArray, List.getElem?_cons_succ, List.getElem?_cons_zero] at c13
    have i1 : (l.length : Int) ≤ cap := by have := hr.1; omega
    have i2 : l.length ≤ cap := by have := hr.1; omega
    have C13 := fun o => (B1.alloc o).cell 4
    simp only [List.getElem?_toArray, List.getElem?_cons_succ, List.getElem?_cons_zero] at C13
    go_wp2_with (refine wpList_load_row rfl 37 (.tmp 1) rfl _ rfl _ _ _ _ B1 Try.underlying37 rfl (by kernel_rfl) ?_)
    clear C13 c13
    refine (udpEnc_any fr frp to_ top _ l le _ _ x _ hk.out ((hr.bytes).al _) rfl (by omega) HE).mono ?_
    rintro e w2 ⟨v2, rfl, hr2⟩
    obtain ⟨A2, n2, c2, rfl, HN2⟩ := hr2.slice
    have B2 := (B1.alloc (.cells #[.int .u32 fr, .int .i64 frp, .int .u32 to_, .int .i64 top, .slice (some ⟨g, 0, none⟩) l.length cap] 37)).nx hr2.2
    have bw2 : Below w.heap.size w w2 := nx (al (nx (al (rf w) _) hb1) _) hr2.2
    go_wp2_with (refine wpList_load_row rfl 37 (.tmp 1) rfl _ rfl _ _ _ _ B2 Try.underlying37 rfl (by kernel_rfl) ?_)
    refine (rudpEnc_any fr frp to_ top _ l le _ _ x _ hk.out (hb.nx bw2) rfl (by omega) HE).mono ?_
    rintro e w3 ⟨v3, rfl, hr3⟩
    obtain ⟨A3, n3, c3, rfl, HN3⟩ := hr3.slice
    have B3 := B2.nx hr3.2
    have hxx : ((x : Int) == x) = true := by simp
    have e2 : Bytes w3 A2 le := (by have h := hr2.1; rw [HN2.out] at h; exact Bytes.own h : Bytes w2 A2 le).nx hr3.2
    have e3 : Bytes w3 A3 le := by have h := hr3.1; rw [HN3.out] at h; exact Bytes.own h
    go_wp2_with fail
    refine (same_ _ _ _ le le _ _ _ _ e2 e3 HN2.out HN3.out (by omega) (by omega)).mono ?_
    rintro e w4 ⟨rfl, hb4⟩
    rw [show (le == le) = true by simp]
    have B4 := B3.nx hb4
    have c13 := B4.cell 4
    simp only [List.getElem?_toArray, List.getElem?_cons_succ, List.getElem?_cons_zero] at c13
    have bw4 : Below w.heap.size w w4 := nx (nx bw2 hr3.2) hb4
    have hr4 : Roomy w4 g cap l := (((hr.nx (al (rf w1) _)).nx hr2.2).nx hr3.2).nx hb4
    go_wp2_with fail
    refine (stands _ A l _ g cap c hr4 (hb.nx bw4) rfl (by omega)).mono ?_
    rintro e w5 ⟨rfl, hb5⟩
    have bw5 := nx bw4 hb5
    go_wp2_with fail
    refine (known _).mono ?_
    rintro e w8 ⟨rfl, hb8⟩
    go_wp2
    go_ret
    exact ⟨rfl, nx bw5 hb8⟩

theorem trod_u32 {H : Type} {enc : TypeId × Value → H} {P : Program} {w : World} {base : Nat} {sp : Nat → Bool} {held : Bool} {t : TypeId} {fuel : Nat} {cs : List Value} {x : DataW H × List MemPlace} (ht : P.underlying t = some (.int .u32)) (h : DataW.trod enc P w base sp held fuel t cs = some x) : ∃ n, cs = [.int .u32 n] ∧ 0 ≤ n ∧ n ≤ 4294967295 := by
  obtain ⟨n, h1, _, h2⟩ := DataW.trod_int ht h
  refine ⟨n, h1, ?_, ?_⟩ <;> (simp [Lit.wf, IntKind.min, IntKind.max, IntKind.signed, IntKind.bits] at h2; omega)
theorem open_dgram {H : Type} {enc : TypeId × Value → H} {w : World} {base b0 : Nat} {r : Reach} {sp : Nat → Bool} {held : Bool} {v : Value} {d : DataW H} {p : List MemPlace}
    (hv : Value.okWide Try.prog w r b0 37 v) (h : DataW.Trod enc Try.prog w base sp held 37 v d p) : ∃ fr frp to_ top A l c, v = .agg #[.int .u32 fr, .int .i64 frp, .int .u32 to_, .int .i64 top, .slice A l.length c] ∧ okA fr to_ ∧ Bytes w A l ∧ l.length ≤ maxLen := by
  obtain ⟨cs, rfl, hsz⟩ := okWide_struct Try.underlying37 hv
  obtain ⟨fuel, hf⟩ := h
  obtain ⟨xs, n, _, _, hcl, hxl, hg⟩ := DataW.trod_struct Try.underlying37 hf
  have c41 : Try.prog.cellsOf 37 = 5 := by kernel_rfl
  have c23 : Try.prog.cellsOf 23 = 1 := by kernel_rfl
  have c3 : Try.prog.cellsOf 3 = 1 := by kernel_rfl
  have c39 : Try.prog.cellsOf 35 = 1 := by kernel_rfl
  have g0 := hg 0 _ rfl
  have g1 := hg 1 _ rfl
  have g2 := hg 2 _ rfl
  have g3 := hg 3 _ rfl
  have g4 := hg 4 _ rfl
  simp only [Value.cells] at g0 g1 g2 g3 g4
  obtain ⟨l⟩ := cs
  rw [c41] at hsz
  match l, hsz with
  | [x0, x1, x2, x3, x4], _ =>
    rw [List.getElem?_eq_getElem (show 0 < xs.length by rw [hxl]; decide)] at g0
    rw [List.getElem?_eq_getElem (show 1 < xs.length by rw [hxl]; decide)] at g1
    rw [List.getElem?_eq_getElem (show 2 < xs.length by rw [hxl]; decide)] at g2
    rw [List.getElem?_eq_getElem (show 3 < xs.length by rw [hxl]; decide)] at g3
    rw [List.getElem?_eq_getElem (show 4 < xs.length by rw [hxl]; decide)] at g4
    obtain ⟨a0, h0, b0, b1⟩ := trod_u32 Try.underlying23 g0
    obtain ⟨a1, h1, _, _⟩ := DataW.trod_int Try.underlying3 g1
    obtain ⟨a2, h2, b2, b3⟩ := trod_u32 Try.underlying23 g2
    obtain ⟨a3, h3, _, _⟩ := DataW.trod_int Try.underlying3 g3
    obtain ⟨A, dl, c, h8, h9, h10⟩ := trod_bytes g4
    simp [c23] at h0 h2
    simp [c3] at h1 h3
    simp [c39] at h8
    subst h0 h1 h2 h3 h8
    exact ⟨a0, a1, a2, a3, A, dl, c, rfl, ⟨b0, b1, b2, b3⟩, h9, h10⟩

set_option maxRecDepth 100000 in
theorem udpEncodes_lifted (os : Os) (started : os.Started) (H : Type) (enc : TypeId × Value → H) :
    ReturnsInHanded {} Try.checked os 8 .any (Rows.uDPEncodesSpec.pre6 enc Try.prog Try.f8 Rows.uDPEncodesRow.domain false) (Rows.uDPEncodesSpec.post enc Try.prog Try.f8 false true false false) :=
  law_lift started (by kernel_rfl) Try.func8
    (ChangeSpec.witness6 (enc := enc) (C := Try.checked) false ⟨#[], #[.agg #[.int .u32 0, .int .i64 0, .int .u32 0, .int .i64 0, .slice none 0 0]], []⟩ 8 (by kernel_rfl) (by kernel_rfl) (by kernel_rfl) (by kernel_rfl))
    rfl rfl Try.underlying4 (by kernel_rfl) (fun ds h => match ds, h with | [_], _ => rfl)
    (fun W base args ds p hval hA hsz => by
      rw [Try.params8] at hA hval
      obtain ⟨v0, d0, rfl, rfl, h0⟩ := trodAll_one hA
      obtain ⟨fr, frp, to_, top, A, l, c, rfl, hk, hb, hl⟩ := open_dgram (hval 0 37 v0 rfl rfl) h0
      exact udpEncodes_walk fr frp to_ top A l c W hk hb (by unfold maxLen at hl; omega))

theorem udpEncodes_holds : Rows.UDPEncodesSaid :=
  OpenClaim.holds_of_wide 8 Try.f8 rfl rfl rfl rfl rfl rfl rfl ⟨rfl, rfl, rfl, rfl, rfl⟩ rfl rfl rfl rfl rfl (by kernel_rfl) Try.func8 (by kernel_rfl)
    (of_decide_eq_true (by kernel_rfl)) (by unfold Func.isWrapper; rw [if_neg (of_decide_eq_false (by kernel_rfl))]; exact ⟨rfl, rfl⟩)
    (fun os started H enc _ => udpEncodes_lifted os started H enc)
end Go.Proofs.Ytbhplleaokncpaa
