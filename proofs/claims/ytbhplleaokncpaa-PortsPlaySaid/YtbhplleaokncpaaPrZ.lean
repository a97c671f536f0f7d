/-
  PortsPlay: of every script each answer: who has which port, and who hears; the law returns true for every input.
-/
import Derived.Test.YtbhplleaokncpaaPrY
import Derived.Test.YtbhplleaokncpaaLaw
set_option linter.unusedVariables false
namespace Go.Proofs.Ytbhplleaokncpaa
open Go.ChangeShapes Go.WideShapes Go.ChangeAt Go.RowKit

structure Ps where
  (kind id port n a : Int)
  (d : Dg)
def Ps.cs (s : Ps) : List Value := [.int .i64 s.kind, .int .i64 s.id, .int .i64 s.port, .int .i64 s.n, .int .u32 s.a, .int .u32 s.d.fr, .int .i64 s.d.frp, .int .u32 s.d.to_, .int .i64 s.d.top, s.d.data]
set_option maxRecDepth 100000
theorem trod_ps {H : Type} {enc : TypeId × Value → H} {w : World} {base : Nat} {sp : Nat → Bool} {held : Bool} {fuel : Nat} {cs : List Value} {x : DataW H × List MemPlace}
    (hsz : cs.length = 10) (hf : DataW.trod enc Try.prog w base sp held fuel 49 cs = some x) : ∃ s : Ps, cs = s.cs ∧ (Lit.int .i64 s.id).wf = true := by
  have hk := leaves_of (F := 6) (N := 10) (ks := [.int .i64, .int .i64, .int .i64, .int .i64, .int .u32, .int .u32, .int .i64, .int .u32, .int .i64, .other 35]) hf (by kernel_rfl)
  match cs, hsz with
  | [x0, x1, x2, x3, x4, x5, x6, x7, x8, x9], _ =>
    obtain ⟨v0, e0, a0, h0, _⟩ := hk 0 _ rfl
    obtain rfl : x0 = v0 := by injection e0
    subst h0
    obtain ⟨v1, e1, a1, h1, w1⟩ := hk 1 _ rfl
    obtain rfl : x1 = v1 := by injection e1
    subst h1
    obtain ⟨v2, e2, a2, h2, _⟩ := hk 2 _ rfl
    obtain rfl : x2 = v2 := by injection e2
    subst h2
    obtain ⟨v3, e3, a3, h3, _⟩ := hk 3 _ rfl
    obtain rfl : x3 = v3 := by injection e3
    subst h3
    obtain ⟨v4, e4, a4, h4, _⟩ := hk 4 _ rfl
    obtain rfl : x4 = v4 := by injection e4
    subst h4
    obtain ⟨v5, e5, a5, h5, _⟩ := hk 5 _ rfl
    obtain rfl : x5 = v5 := by injection e5
    subst h5
    obtain ⟨v6, e6, a6, h6, _⟩ := hk 6 _ rfl
    obtain rfl : x6 = v6 := by injection e6
    subst h6
    obtain ⟨v7, e7, a7, h7, _⟩ := hk 7 _ rfl
    obtain rfl : x7 = v7 := by injection e7
    subst h7
    obtain ⟨v8, e8, a8, h8, _⟩ := hk 8 _ rfl
    obtain rfl : x8 = v8 := by injection e8
    subst h8
    exact ⟨⟨a0, a1, a2, a3, a4, ⟨a5, a6, a7, a8, x9⟩⟩, rfl, w1⟩
theorem open_ps {H : Type} {enc : TypeId × Value → H} {w : World} {base b0 : Nat} {r : Reach} {sp : Nat → Bool} {held : Bool} {v : Value} {d : DataW H} {p : List MemPlace}
    (hv : Value.okWide Try.prog w r b0 42 v) (h : DataW.Trod enc Try.prog w base sp held 42 v d p) :
    ∃ (A : Option Addr) (n c : Nat) (l : List (List Value)), v = .slice A n c ∧ n ≤ c ∧ c ≤ maxLen ∧ RowsAt w w.heap.size 10 A n l ∧ ∀ r ∈ l, ∃ s : Ps, r = s.cs ∧ (Lit.int .i64 s.id).wf = true :=
  open_rows Try.underlying42 (by kernel_rfl) (by decide) hv h (fun cs => ∃ s : Ps, cs = s.cs ∧ (Lit.int .i64 s.id).wf = true) (fun _ cs _ hl hx => trod_ps hl hx)
theorem rf_new (w : World) (B : Nat) (hB : B ≤ w.heap.size) : IsRf (w.alloc (.cells #[.slice none 0 0] 46)) B w.heap.size [] :=
  ⟨hB, .slice none 0 0, Blk.new _ _ _, World.ownsRow_nil _ _ _ _⟩
set_option maxHeartbeats 1600000 in
theorem portsPlay_walk (A : Option Addr) (n c : Nat) (l : List (List Value)) (w : World) (hn : n ≤ c) (hm : c ≤ maxLen) (hA : RowsAt w w.heap.size 10 A n l) (hl : ∀ r ∈ l, ∃ s : Ps, r = s.cs ∧ (Lit.int .i64 s.id).wf = true) :
    Calls Try.prog 6 #[.slice A n c] w fun e w' => e = .returned (.bool true) ∧ Below w.heap.size w w' := by
  unfold maxLen at hm
  have HA := Lib.hid hA
  have HL := Lib.hid hl
  have hP : Pd ((w.alloc (.cells #[.map none] 27)).alloc (.cells #[.slice none 0 0] 46)) w.heap.size w.heap.size (w.heap.size + 1) [] := by
    refine ⟨(newIs w 0).nx (al (rf _) _), ?_, by decide, by simp; omega⟩
    have := rf_new (w.alloc (.cells #[.map none] 27)) w.heap.size (by simp)
    simpa using this
  have H0 := Lib.hid hP
  have B0 : Hid (Below w.heap.size w ((w.alloc (.cells #[.map none] 27)).alloc (.cells #[.slice none 0 0] 46))) := al (al (rf w) _) _
  clear hA hl hP
  go_enter Try.func6, Try.ntmps6
  go_wp2
  go_loopw [5] (fun iv wr => ∃ (i : Nat) (L : List Rp), iv = .int .i64 i ∧ i ≤ 200 ∧ i ≤ n ∧ Hid (Pd wr w.heap.size w.heap.size (w.heap.size + 1) L) ∧ Hid (Below w.heap.size w wr)) (fun iv _ => n - (intOf iv).toNat)
  case atStart => exact ⟨0, [], rfl, by decide, by omega, H0.out, B0.out⟩
  case round =>
    obtain ⟨i, L, rfl, hi, hin, HP, HB⟩ := hrel
    by_cases hlt : i < n
    rotate_left
    · go_wp2_with fail
      refine (known _).mono ?_
      rintro e w9 ⟨rfl, hb9⟩
      go_wp2
      go_ret
      exact ⟨rfl, nx HB.out hb9⟩
    by_cases h200 : i < 200
    rotate_left
    · go_wp2_with fail
      refine (known _).mono ?_
      rintro e w9 ⟨rfl, hb9⟩
      go_wp2
      go_ret
      exact ⟨rfl, nx HB.out hb9⟩
    obtain ⟨ad, rr, hA, hadB, hr, hlen, hcell⟩ := (HA.out.below HB.out).row hlt
    obtain rfl := hA
    obtain ⟨s, rfl, hid⟩ := HL.out rr (List.mem_of_getElem? hr)
    have HCELL := Lib.hid hcell
    have HID := Lib.hid hid
    have HSZ : Hid ((Try.prog.info? 49).map (·.size) = some s.cs.length) := by show _ = some 10; kernel_rfl
    clear hcell hr hlen hadB hid
    go_wp2_with (with_reducible refine wpList_load_any rfl 49 (.tmp 24) rfl (ad.add (i * 10)) (by kernel_rfl) s.cs _ HCELL.out Try.underlying49 (by kernel_rfl) HSZ.out ?_)
    refine (doesC w.heap.size w.heap.size (w.heap.size + 1) L s.kind s.id s.port s.n s.a s.d wr HP.out HID.out).mono ?_
    rintro e w1 ⟨rfl, L', hP', hB'⟩
    have HP1 := Lib.hid hP'
    have HB1 := Lib.hid (HB.out.trans hB')
    clear hP' hB'
    go_wp2
    go_roundw
    case rel => exact ⟨i + 1, L', by go_num, by omega, by omega, HP1.out, HB1.out⟩
    case measure => simp [intOf]; omega
set_option maxRecDepth 100000 in
theorem portsPlay_lifted (os : Os) (started : os.Started) (H : Type) (enc : TypeId × Value → H) :
    ReturnsInHanded {} Try.checked os 6 .any (Rows.portsPlaySpec.pre6 enc Try.prog Try.f6 Rows.portsPlayRow.domain false) (Rows.portsPlaySpec.post enc Try.prog Try.f6 false true false false) :=
  law_lift started (by kernel_rfl) Try.func6
    (ChangeSpec.witness6 (enc := enc) (C := Try.checked) false ⟨#[], #[.slice none 0 0], []⟩ 8 (by kernel_rfl) (by kernel_rfl) (by kernel_rfl) (by kernel_rfl))
    rfl rfl Try.underlying4 (by kernel_rfl) (fun ds h => match ds, h with | [_], _ => rfl)
    (fun W base args ds p hval hA hsz => by
      rw [Try.params6] at hA hval
      have hsz' := hsz
      rw [Try.params6] at hsz'
      obtain ⟨v0, d0, rfl, rfl, h0⟩ := trodAll_one hA
      obtain ⟨A, n, c, l, rfl, h1, h2, h3, h4⟩ := open_ps (hval 0 42 v0 rfl rfl) h0
      exact portsPlay_walk A n c l W h1 h2 h3 h4)
theorem portsPlay_holds : Rows.PortsPlaySaid :=
  OpenClaim.holds_of_wide 6 Try.f6 rfl rfl rfl rfl rfl rfl rfl ⟨rfl, rfl, rfl, rfl, rfl⟩ rfl rfl rfl rfl rfl (by kernel_rfl) Try.func6 (by kernel_rfl)
    (of_decide_eq_true (by kernel_rfl)) (by unfold Func.isWrapper; rw [if_neg (of_decide_eq_false (by kernel_rfl))]; exact ⟨rfl, rfl⟩)
    (fun os started H enc _ => portsPlay_lifted os started H enc)
end Go.Proofs.Ytbhplleaokncpaa
