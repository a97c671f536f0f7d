/-
  IPDecodes, the row and its tied card: the law 'any bytes are a packet, or refused for the first reason of all' returns true for every input,
  where the listed variables of the library hold what the program's text lays (the tie is given).
-/
import Derived.Test.YthjpdaflgphbbaaDoorIpLw
import Derived.Test.YthjpdaflgphbbaaDoorIpV
import Derived.Test.YthjpdaflgphbbaaDoorLawD
import Derived.Test.YthjpdaflgphbbaaDoorOpen
import Derived.Test.YthjpdaflgphbbaaDoorIpOp
import Derived.Test.YthjpdaflgphbbaaDoorTie
import Derived.Test.YthjpdaflgphbbaaDoorCards
import Derived.SevenTiedAt
set_option linter.unusedVariables false
namespace Go.Proofs.YthjpdaflgphbbaaDoor
open Go.ChangeShapes Go.WideShapes Go.ChangeAt Go.RowKit
open Go.ChangeMaps (open_string shut_string)
set_option maxRecDepth 100000

theorem ipDecodes_lifted (os : Os) (started : os.Started) (H : Type) (enc : TypeId × Value → H) :
    ReturnsInHanded {} Tryd.checked os 7 .any (fun w args => (Rows.iPDecodesSpec.pre enc Tryd.checked.prog Tryd.f7 [] false w args ∧ laidMetH Tryd.prog Rows.iPDecodesRow.laid w) ∧ sizedMet enc Tryd.checked.prog Tryd.f7 (OpenSpec.ofChange Rows.iPDecodesSpec) false w args)
      (Rows.iPDecodesSpec.post enc Tryd.checked.prog Tryd.f7 false true false false) :=
  law_lift_laid started (X := fun w _ => laidMetH Tryd.prog Rows.iPDecodesRow.laid w) (fun _ _ _ hh h => h.of_heap hh) (by kernel_rfl) Tryd.func7
    (ChangeSpec.witness_shaped (enc := enc) (C := Tryd.checked) (os := os) (X := fun w _ => laidMetH Tryd.prog Rows.iPDecodesRow.laid w) false (World.laidAll Tryd.prog os Rows.iPDecodesRow.laid) #[.slice none 0 0] 8 (World.laidAll_os _ _ _)
      (World.shaped_of_ZipB (by kernel_rfl) (by kernel_rfl)) (by kernel_rfl) (by kernel_rfl) (by kernel_rfl)
      (by rw [MakeChecks.laidMetH_plain _ _ _ (by kernel_rfl)]; exact laidMet_laidAll _ (by kernel_rfl) (by kernel_rfl)))
    rfl rfl Tryd.underlying4 (by kernel_rfl) (fun ds h => match ds, h with | [_], _ => rfl)
    (fun W base args ds p hval hA hsz hsh hL => by
      rw [Tryd.params7] at hA hval
      have hsz' := hsz
      rw [Tryd.params7] at hsz'
      obtain ⟨v0, d0, rfl, rfl, h0⟩ := trodAll_one hA
      obtain ⟨A, l, c, rfl, hb, hl, hc⟩ := open_bytes2 (hval 0 24 v0 rfl rfl) h0
      exact ipDecodes_walk W A l c hb hc (by unfold maxLen at hl; omega) (env_of hsh hL))
theorem ipDecodes_holds : Rows.IPDecodesSaid :=
  OpenClaim.holds_of_wide 7 Tryd.f7 rfl rfl rfl rfl rfl rfl rfl ⟨rfl, rfl, rfl, rfl, rfl⟩ rfl rfl rfl rfl rfl (by kernel_rfl) Tryd.func7 (by kernel_rfl)
    (of_decide_eq_true (by kernel_rfl)) (by unfold Func.isWrapper; first | (rw [if_pos (by decide +kernel)]; kernel_rfl) | (rw [if_neg (by decide +kernel)]; exact ⟨rfl, rfl⟩))
    (fun os started H enc _ => ipDecodes_lifted os started H enc)
theorem ipDecodes_card : Rows.IPDecodesCardSaid :=
  Claim7.holds_tied_plain_at .later [] [.data, .data, .data, .data, .sentinel, .sentinel, .pinned] true (true, "1069df1c01d747c24bec6fcc682d1846a393189551e65c820ffc957dc483a05c") true
    ipDecodes_holds (fun _ h => by cases h) (by kernel_rfl) (fun _ h => by cases h) iPDecodes_row_tie rfl ⟨rfl, rfl⟩ (by kernel_rfl) rfl
    (fun f fn hf hfn => by
      obtain rfl : f = 7 := Option.some.inj ((show Tryd.prog.funcNamed "wharf/wharflaw6.IPDecodes" = some 7 by kernel_rfl).symm.trans hf) |>.symm
      obtain rfl : fn = Tryd.f7 := (Option.some.inj (Tryd.func7.symm.trans hfn)).symm
      exact ⟨by kernel_rfl, fun j t ht => by
        rw [Tryd.params7] at ht
        have hm : t ∈ [24] := by simpa using Array.mem_of_getElem? ht
        have hall : ([24].all fun u => !Tryd.prog.wantsStandIn u) = true := by kernel_rfl
        exact (show Tryd.prog.wantsStandIn t = false by simpa using List.all_eq_true.1 hall t hm)⟩)
    (by kernel_rfl)
end Go.Proofs.YthjpdaflgphbbaaDoor
