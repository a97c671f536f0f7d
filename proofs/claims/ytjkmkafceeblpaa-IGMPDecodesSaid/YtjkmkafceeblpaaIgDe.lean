/-
  IGMPDecodes: for every row of bytes the law 'any bytes are a message, or refused' returns true. No condition.
-/
import Derived.Test.YtjkmkafceeblpaaIgQ
import Derived.Test.YtjkmkafceeblpaaIg2
import Derived.Test.YtjkmkafceeblpaaHelp10
import Derived.Test.YtjkmkafceeblpaaOpen
set_option linter.unusedVariables false
namespace Go.Proofs.Ytjkmkafceeblpaa
open Go.ChangeShapes Go.WideShapes Go.ChangeAt Go.RowKit

def DecIg (l : List UInt8) (p q r x : Int) (f : FuncId) : Prop := ∀ (A : Option Addr) (n c : Nat) (W : World), Bytes W A l → Hid (n = l.length) →
  Calls Try.prog f #[.slice A n c] W fun e w' => e = .returned (.tuple #[.agg #[.int .i64 p, .int .i64 q, .int .u32 r], .int .i64 x]) ∧ Below W.heap.size W w'
theorem decIg (l : List UInt8) (hl : l.length ≤ 1000000) : ∃ p q r x : Int, DecIg l p q r x 10 ∧ DecIg l p q r x 11 := by
  by_cases h8 : l.length < 8
  · exact ⟨0, 0, 0, 2, fun A n c W h hn => by rw [hn.out]; exact igDecBad A l c W h hl 2 (.inl ⟨h8, rfl⟩), fun A n c W h hn => by rw [hn.out]; exact igRDecBad A l c W h hl 2 (.inl ⟨h8, rfl⟩)⟩
  by_cases hs : sumB l = 0
  · exact ⟨_, _, _, 0, fun A n c W h hn => by rw [hn.out]; exact igDecOk A l c W h hl (by omega) hs _ _ _ rfl rfl rfl, fun A n c W h hn => by rw [hn.out]; exact igRDecOk A l c W h hl (by omega) hs _ _ _ rfl rfl rfl⟩
  · exact ⟨0, 0, 0, 4, fun A n c W h hn => by rw [hn.out]; exact igDecBad A l c W h hl 4 (.inr ⟨by omega, hs, rfl⟩), fun A n c W h hn => by rw [hn.out]; exact igRDecBad A l c W h hl 4 (.inr ⟨by omega, hs, rfl⟩)⟩
set_option maxHeartbeats 1600000 in
theorem iGMPDecodes_walk (A : Option Addr) (l : List UInt8) (c : Nat) (w : World) (hb : Bytes w A l) (hc : l.length ≤ c) :
    Calls Try.prog 3 #[.slice A l.length c] w fun e w' => e = .returned (.bool true) ∧ Below w.heap.size w w' := by
  by_cases h2 : 2000 < (l.length : Int)
  · go_enter Try.func3, Try.ntmps3
    go_wp2
    go_ret
    exact ⟨rfl, rf w⟩
  · obtain ⟨p, q, r, x, D1, D2⟩ := decIg l (by omega)
    have H1 := Lib.hid D1; have H2 := Lib.hid D2
    clear D1 D2
    have hq := eql_igmp p q r
    go_enter Try.func3, Try.ntmps3
    go_wp2_with fail
    refine (roomy _ A l _ c hb rfl (by omega)).mono ?_
    rintro e w1 ⟨g, cap, rfl, hg, hr, b1⟩
    have i1 : (l.length : Int) ≤ cap := by have := hr.1; omega
    have i2 : l.length ≤ cap := by have := hr.1; omega
    have HR := Lib.hid hr
    clear hr
    go_wp2_with fail
    refine (H1.out (some ⟨g, 0, none⟩) l.length cap _ HR.out.bytes rfl).mono ?_
    rintro e w2 ⟨rfl, b2⟩
    have B2 := Lib.hid (nx b1 b2)
    have HR2 := Lib.hid (HR.out.nx b2)
    have X1 := Lib.hid (Blk.new w2 27 #[.int .i64 p, .int .i64 q, .int .u32 r])
    have HL := Lib.hid (hb.nx (al B2.out (.cells #[.int .i64 p, .int .i64 q, .int .u32 r] 27)))
    clear b1 b2
    go_wp2_with fail
    refine (H2.out A l.length c _ HL.out rfl).mono ?_
    rintro e w3 ⟨rfl, b3⟩
    have B3 := Lib.hid (nx (al B2.out _) b3)
    have HR3 := Lib.hid ((HR2.out.nx (al (rf w2) _)).nx b3)
    have X3 := Lib.hid (X1.out.nx b3)
    have d0 : (w3.alloc (.cells #[.int .i64 p, .int .i64 q, .int .u32 r] 27)).cell? ⟨w2.heap.size, 0, none⟩ = some (.int .i64 p) := (X3.out.alloc _).cell 0
    have d1 : (w3.alloc (.cells #[.int .i64 p, .int .i64 q, .int .u32 r] 27)).cell? ⟨w2.heap.size, 1, none⟩ = some (.int .i64 q) := (X3.out.alloc _).cell 1
    have d2 : (w3.alloc (.cells #[.int .i64 p, .int .i64 q, .int .u32 r] 27)).cell? ⟨w2.heap.size, 2, none⟩ = some (.int .u32 r) := (X3.out.alloc _).cell 2
    go_wp2_with fail
    refine (stands _ A l _ g cap c (HR3.out.nx (al (rf w3) _)) (hb.nx (al B3.out _)) rfl (by omega)).mono ?_
    rintro e w4 ⟨rfl, b4⟩
    clear d0 d1 d2
    go_wp2_with fail
    refine (known _).mono ?_
    rintro e w5 ⟨rfl, b5⟩
    go_wp2
    go_ret
    exact ⟨rfl, nx (nx (al B3.out _) b4) b5⟩
set_option maxRecDepth 100000 in
theorem iGMPDecodes_lifted (os : Os) (started : os.Started) (H : Type) (enc : TypeId × Value → H) :
    ReturnsInHanded {} Try.checked os 3 .any (Rows.iGMPDecodesSpec.pre6 enc Try.prog Try.f3 Rows.iGMPDecodesRow.domain false) (Rows.iGMPDecodesSpec.post enc Try.prog Try.f3 false true false false) :=
  law_lift started (by kernel_rfl) Try.func3
    (ChangeSpec.witness6 (enc := enc) (C := Try.checked) false ⟨#[], #[.slice none 0 0], []⟩ 8 (by kernel_rfl) (by kernel_rfl) (by kernel_rfl) (by kernel_rfl))
    rfl rfl Try.underlying4 (by kernel_rfl) (fun ds h => match ds, h with | [_], _ => rfl)
    (fun W base args ds p hval hA hsz => by
      rw [Try.params3] at hA hval
      have hsz' := hsz
      rw [Try.params3] at hsz'
      obtain ⟨v0, d0, rfl, rfl, h0⟩ := trodAll_one hA
      obtain ⟨A, l, c, rfl, hb, hl, hc⟩ := open_bytes2 (hval 0 22 v0 rfl rfl) h0
      exact iGMPDecodes_walk A l c W hb hc)
theorem iGMPDecodes_holds : Rows.IGMPDecodesSaid :=
  OpenClaim.holds_of_wide 3 Try.f3 rfl rfl rfl rfl rfl rfl rfl ⟨rfl, rfl, rfl, rfl, rfl⟩ rfl rfl rfl rfl rfl (by kernel_rfl) Try.func3 (by kernel_rfl)
    (of_decide_eq_true (by kernel_rfl)) (by unfold Func.isWrapper; rw [if_neg (of_decide_eq_false (by kernel_rfl))]; exact ⟨rfl, rfl⟩)
    (fun os started H enc _ => iGMPDecodes_lifted os started H enc)
end Go.Proofs.Ytjkmkafceeblpaa
