/-
  IPTexts, the row and its tied card: the law 'every address has its text, which is read as it' returns true for every input,
  where the listed variables of the library hold what the program's text lays (the tie is given).
-/
import Derived.Test.YthjpdaflgphbbaaDoorIpTx
import Derived.Test.YthjpdaflgphbbaaDoorIpV
import Derived.Test.YthjpdaflgphbbaaDoorLawD
import Derived.Test.YthjpdaflgphbbaaDoorOpen
import Derived.Test.YthjpdaflgphbbaaDoorIpOp
import Derived.Test.YthjpdaflgphbbaaDoorTie
import Derived.Test.YthjpdaflgphbbaaDoorCards
import Derived.SevenTiedAt
set_option linter.unusedVariables false
namespace Go.Proofs.YthjpdaflgphbbaaDoor
open Go.ChangeShapes Go.WideShapes Go.ChangeAt Go.RowKit
open Go.ChangeMaps (open_string shut_string)
set_option maxRecDepth 100000

theorem ipTexts_lifted (os : Os) (started : os.Started) (H : Type) (enc : TypeId × Value → H) :
    ReturnsInHanded {} Tryd.checked os 4 .any (fun w args => (Rows.iPTextsSpec.pre enc Tryd.checked.prog Tryd.f4 [] false w args ∧ laidMetH Tryd.prog Rows.iPTextsRow.laid w) ∧ sizedMet enc Tryd.checked.prog Tryd.f4 (OpenSpec.ofChange Rows.iPTextsSpec) false w args)
      (Rows.iPTextsSpec.post enc Tryd.checked.prog Tryd.f4 false true false false) :=
  law_lift_laid started (X := fun w _ => laidMetH Tryd.prog Rows.iPTextsRow.laid w) (fun _ _ _ hh h => h.of_heap hh) (by kernel_rfl) Tryd.func4
    (ChangeSpec.witness_shaped (enc := enc) (C := Tryd.checked) (os := os) (X := fun w _ => laidMetH Tryd.prog Rows.iPTextsRow.laid w) false (World.laidAll Tryd.prog os Rows.iPTextsRow.laid) #[.int .u32 0] 8 (World.laidAll_os _ _ _)
      (World.shaped_of_ZipB (by kernel_rfl) (by kernel_rfl)) (by kernel_rfl) (by kernel_rfl) (by kernel_rfl)
      (by rw [MakeChecks.laidMetH_plain _ _ _ (by kernel_rfl)]; exact laidMet_laidAll _ (by kernel_rfl) (by kernel_rfl)))
    rfl rfl Tryd.underlying4 (by kernel_rfl) (fun ds h => match ds, h with | [_], _ => rfl)
    (fun W base args ds p hval hA hsz hsh hL => by
      rw [Tryd.params4] at hA hval
      have hsz' := hsz
      rw [Tryd.params4] at hsz'
      obtain ⟨v0, d0, rfl, rfl, h0⟩ := trodAll_one hA
      obtain ⟨a, rfl, hb0⟩ := open_addr (hval 0 23 v0 rfl rfl) h0
      exact ipTexts_walk a W (by omega) (env_of hsh hL))
theorem ipTexts_holds : Rows.IPTextsSaid :=
  OpenClaim.holds_of_wide 4 Tryd.f4 rfl rfl rfl rfl rfl rfl rfl ⟨rfl, rfl, rfl, rfl, rfl⟩ rfl rfl rfl rfl rfl (by kernel_rfl) Tryd.func4 (by kernel_rfl)
    (of_decide_eq_true (by kernel_rfl)) (by unfold Func.isWrapper; first | (rw [if_pos (by decide +kernel)]; kernel_rfl) | (rw [if_neg (by decide +kernel)]; exact ⟨rfl, rfl⟩))
    (fun os started H enc _ => ipTexts_lifted os started H enc)
theorem ipTexts_card : Rows.IPTextsCardSaid :=
  Claim7.holds_tied_plain_at .later [] [.data, .data, .data, .data, .sentinel, .sentinel, .pinned] true (true, "1069df1c01d747c24bec6fcc682d1846a393189551e65c820ffc957dc483a05c") true
    ipTexts_holds (fun _ h => by cases h) (by kernel_rfl) (fun _ h => by cases h) iPTexts_row_tie rfl ⟨rfl, rfl⟩ (by kernel_rfl) rfl
    (fun f fn hf hfn => by
      obtain rfl : f = 4 := Option.some.inj ((show Tryd.prog.funcNamed "wharf/wharflaw6.IPTexts" = some 4 by kernel_rfl).symm.trans hf) |>.symm
      obtain rfl : fn = Tryd.f4 := (Option.some.inj (Tryd.func4.symm.trans hfn)).symm
      exact ⟨by kernel_rfl, fun j t ht => by
        rw [Tryd.params4] at ht
        have hm : t ∈ [23] := by simpa using Array.mem_of_getElem? ht
        have hall : ([23].all fun u => !Tryd.prog.wantsStandIn u) = true := by kernel_rfl
        exact (show Tryd.prog.wantsStandIn t = false by simpa using List.all_eq_true.1 hall t hm)⟩)
    (by kernel_rfl)
end Go.Proofs.YthjpdaflgphbbaaDoor
