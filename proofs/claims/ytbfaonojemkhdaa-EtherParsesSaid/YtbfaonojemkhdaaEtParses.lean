/-
  Any text is an Ethernet address, or refused, as the reference has it. No conditions.
-/
import Derived.Test.YtbfaonojemkhdaaMacK
set_option linter.unusedVariables false
namespace Go.Proofs.Ytbfaonojemkhdaa
open Go.ChangeShapes Go.WideShapes Go.ChangeAt Go.RowKit
open Go.ChangeMaps (open_string shut_string)

theorem parse_lit (s : ByteArray) (w : World) (m : Mac) (x : Int) (hs : s.size ≤ maxLen) (h : Hid (parseM s.data.toList = (m, x))) : Calls Try.prog 10 #[.string s] w fun e w' =>
    e = .returned (.tuple #[.agg #[.int .u8 m.a.toNat, .int .u8 m.b.toNat, .int .u8 m.c.toNat, .int .u8 m.d.toNat, .int .u8 m.e.toNat, .int .u8 m.f.toNat], .int .i64 x]) ∧ Below w.heap.size w w' :=
  (parse s w hs).mono fun e w' k => ⟨k.1.trans (by rw [h.out]; rfl), k.2⟩
theorem rparse_lit (s : ByteArray) (w : World) (m : Mac) (x : Int) (hs : s.size ≤ maxLen) (h : Hid (parseM s.data.toList = (m, x))) : Calls Try.prog 13 #[.string s] w fun e w' =>
    e = .returned (.tuple #[.agg #[.int .u8 m.a.toNat, .int .u8 m.b.toNat, .int .u8 m.c.toNat, .int .u8 m.d.toNat, .int .u8 m.e.toNat, .int .u8 m.f.toNat], .int .i64 x]) ∧ Below w.heap.size w w' :=
  (rparse s w hs).mono fun e w' k => ⟨k.1.trans (by rw [h.out]; rfl), k.2⟩
set_option maxHeartbeats 400000 in
theorem etherParses_walk (s : ByteArray) (w : World) (hs : s.size ≤ maxLen) : Calls Try.prog 4 #[.string s] w fun e w' => e = .returned (.bool true) ∧ Below w.heap.size w w' := by
  obtain ⟨⟨m, x⟩, hp⟩ : ∃ r, parseM s.data.toList = r := ⟨_, rfl⟩
  have HP := Lib.hid hp; clear hp
  have HS := Lib.hid hs
  unfold maxLen at hs
  have hq := fun w => eql_mac m.a.toNat m.b.toNat m.c.toNat m.d.toNat m.e.toNat m.f.toNat m.a.toNat m.b.toNat m.c.toNat m.d.toNat m.e.toNat m.f.toNat w
  rw [(Mac.beq_iff m m).2 rfl] at hq
  by_cases hl : 2000 < (s.size : Int)
  · go_enter Try.func4, Try.ntmps4
    go_wp2
    go_ret
    exact ⟨rfl, rf w⟩
  · go_enter Try.func4, Try.ntmps4
    go_wp2_with fail
    refine (parse_lit s _ m x HS.out HP).mono ?_
    rintro e w1 ⟨rfl, hb1⟩
    go_wp2_with fail
    refine (rparse_lit s _ m x HS.out HP).mono ?_
    rintro e w2 ⟨rfl, hb2⟩
    have K := fun o => cells6 (((Blk.new w1 23 #[.int .u8 m.a.toNat, .int .u8 m.b.toNat, .int .u8 m.c.toNat, .int .u8 m.d.toNat, .int .u8 m.e.toNat, .int .u8 m.f.toNat]).nx hb2).alloc o)
    go_wp2_with fail
    refine (known _).mono ?_
    rintro e w4 ⟨rfl, hb4⟩
    go_wp2
    go_ret
    exact ⟨rfl, nx (al (nx (al (nx (rf w) hb1) _) hb2) _) hb4⟩

set_option maxRecDepth 100000 in
theorem etherParses_lifted (os : Os) (started : os.Started) (H : Type) (enc : TypeId × Value → H) :
    ReturnsInHanded {} Try.checked os 4 .any (Rows.etherParsesSpec.pre6 enc Try.prog Try.f4 Rows.etherParsesRow.domain false) (Rows.etherParsesSpec.post enc Try.prog Try.f4 false true false false) :=
  law_lift started (by kernel_rfl) Try.func4
    (ChangeSpec.witness6 (enc := enc) (C := Try.checked) false ⟨#[], #[.string ⟨#[]⟩], []⟩ 8 (by kernel_rfl) (by kernel_rfl) (by kernel_rfl) (by kernel_rfl))
    rfl rfl Try.underlying4 (by kernel_rfl) (fun ds h => match ds, h with | [_], _ => rfl)
    (fun W base args ds p hval hA hsz => by
      rw [Try.params4] at hA hval
      obtain ⟨v0, d0, rfl, rfl, h0⟩ := trodAll_one hA
      obtain ⟨s, rfl, _, _, hs⟩ := open_string Try.underlying9 (hval 0 9 v0 rfl rfl) h0
      exact etherParses_walk s W hs)

theorem etherParses_holds : Rows.EtherParsesSaid :=
  OpenClaim.holds_of_wide 4 Try.f4 rfl rfl rfl rfl rfl rfl rfl ⟨rfl, rfl, rfl, rfl, rfl⟩ rfl rfl rfl rfl rfl (by kernel_rfl) Try.func4 (by kernel_rfl)
    (of_decide_eq_true (by kernel_rfl)) (by unfold Func.isWrapper; rw [if_neg (of_decide_eq_false (by kernel_rfl))]; exact ⟨rfl, rfl⟩)
    (fun os started H enc _ => etherParses_lifted os started H enc)
end Go.Proofs.Ytbfaonojemkhdaa
