/-
  IPBack, the row and its tied card: the law 'what a packet is written as is read as it, whatever stands behind' returns true for every input,
  where the listed variables of the library hold what the program's text lays (the tie is given).
-/
import Derived.Test.YthjpdaflgphbbaaDoorIpBk
import Derived.Test.YthjpdaflgphbbaaDoorIpV
import Derived.Test.YthjpdaflgphbbaaDoorLawD
import Derived.Test.YthjpdaflgphbbaaDoorOpen
import Derived.Test.YthjpdaflgphbbaaDoorIpOp
import Derived.Test.YthjpdaflgphbbaaDoorTie
import Derived.Test.YthjpdaflgphbbaaDoorCards
import Derived.SevenTiedAt
set_option linter.unusedVariables false
namespace Go.Proofs.YthjpdaflgphbbaaDoor
open Go.ChangeShapes Go.WideShapes Go.ChangeAt Go.RowKit
open Go.ChangeMaps (open_string shut_string)
set_option maxRecDepth 100000

theorem ipBack_lifted (os : Os) (started : os.Started) (H : Type) (enc : TypeId × Value → H) :
    ReturnsInHanded {} Tryd.checked os 8 .any (fun w args => (Rows.iPBackSpec.pre enc Tryd.checked.prog Tryd.f8 [] false w args ∧ laidMetH Tryd.prog Rows.iPBackRow.laid w) ∧ sizedMet enc Tryd.checked.prog Tryd.f8 (OpenSpec.ofChange Rows.iPBackSpec) false w args)
      (Rows.iPBackSpec.post enc Tryd.checked.prog Tryd.f8 false true false false) :=
  law_lift_laid started (X := fun w _ => laidMetH Tryd.prog Rows.iPBackRow.laid w) (fun _ _ _ hh h => h.of_heap hh) (by kernel_rfl) Tryd.func8
    (ChangeSpec.witness_shaped (enc := enc) (C := Tryd.checked) (os := os) (X := fun w _ => laidMetH Tryd.prog Rows.iPBackRow.laid w) false (World.laidAll Tryd.prog os Rows.iPBackRow.laid) #[.agg #[.int .i64 0, .int .i64 0, .bool false, .bool false, .int .i64 0, .int .i64 0, .int .i64 0, .int .u32 0, .int .u32 0, .slice none 0 0, .slice none 0 0], .slice none 0 0] 8 (World.laidAll_os _ _ _)
      (World.shaped_of_ZipB (by kernel_rfl) (by kernel_rfl)) (by kernel_rfl) (by kernel_rfl) (by kernel_rfl)
      (by rw [MakeChecks.laidMetH_plain _ _ _ (by kernel_rfl)]; exact laidMet_laidAll _ (by kernel_rfl) (by kernel_rfl)))
    rfl rfl Tryd.underlying4 (by kernel_rfl) (fun ds h => match ds, h with | [_, _], _ => rfl)
    (fun W base args ds p hval hA hsz hsh hL => by
      rw [Tryd.params8] at hA hval
      have hsz' := hsz
      rw [Tryd.params8] at hsz'
      obtain ⟨v0, v1, d0, d1, p0, p1, rfl, rfl, rfl, h0, h1⟩ := trodAll_two hA
      obtain ⟨q, o, e, rfl, hq⟩ := open_packet (hval 0 26 v0 rfl rfl) h0
      obtain ⟨A, mo, cm, rfl, hM, hml⟩ := open_bytes (hval 1 24 v1 rfl rfl) h1
      exact ipBack_walk W q o e A cm mo hq hM hml (env_of hsh hL))
theorem ipBack_holds : Rows.IPBackSaid :=
  OpenClaim.holds_of_wide 8 Tryd.f8 rfl rfl rfl rfl rfl rfl rfl ⟨rfl, rfl, rfl, rfl, rfl⟩ rfl rfl rfl rfl rfl (by kernel_rfl) Tryd.func8 (by kernel_rfl)
    (of_decide_eq_true (by kernel_rfl)) (by unfold Func.isWrapper; first | (rw [if_pos (by decide +kernel)]; kernel_rfl) | (rw [if_neg (by decide +kernel)]; exact ⟨rfl, rfl⟩))
    (fun os started H enc _ => ipBack_lifted os started H enc)
theorem ipBack_card : Rows.IPBackCardSaid :=
  Claim7.holds_tied_plain_at .later [] [.data, .data, .data, .data, .sentinel, .sentinel, .pinned] true (true, "1069df1c01d747c24bec6fcc682d1846a393189551e65c820ffc957dc483a05c") true
    ipBack_holds (fun _ h => by cases h) (by kernel_rfl) (fun _ h => by cases h) iPBack_row_tie rfl ⟨rfl, rfl⟩ (by kernel_rfl) rfl
    (fun f fn hf hfn => by
      obtain rfl : f = 8 := Option.some.inj ((show Tryd.prog.funcNamed "wharf/wharflaw6.IPBack" = some 8 by kernel_rfl).symm.trans hf) |>.symm
      obtain rfl : fn = Tryd.f8 := (Option.some.inj (Tryd.func8.symm.trans hfn)).symm
      exact ⟨by kernel_rfl, fun j t ht => by
        rw [Tryd.params8] at ht
        have hm : t ∈ [26, 24] := by simpa using Array.mem_of_getElem? ht
        have hall : ([26, 24].all fun u => !Tryd.prog.wantsStandIn u) = true := by kernel_rfl
        exact (show Tryd.prog.wantsStandIn t = false by simpa using List.all_eq_true.1 hall t hm)⟩)
    (by kernel_rfl)
end Go.Proofs.YthjpdaflgphbbaaDoor
