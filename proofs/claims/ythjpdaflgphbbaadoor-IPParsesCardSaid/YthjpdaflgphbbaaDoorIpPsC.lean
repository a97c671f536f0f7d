/-
  IPParses, the row and its tied card: for every text the law 'any text is an address, or refused' returns true,
  where the listed variables of the library hold what the program's text lays (the tie is given).
-/
import Derived.Test.YthjpdaflgphbbaaDoorIpTx
import Derived.Test.YthjpdaflgphbbaaDoorIpV
import Derived.Test.YthjpdaflgphbbaaDoorLawD
import Derived.Test.YthjpdaflgphbbaaDoorOpen
import Derived.Test.YthjpdaflgphbbaaDoorTie
import Derived.Test.YthjpdaflgphbbaaDoorCards
import Derived.SevenTiedAt
set_option linter.unusedVariables false
namespace Go.Proofs.YthjpdaflgphbbaaDoor
open Go.ChangeShapes Go.WideShapes Go.ChangeAt Go.RowKit
open Go.ChangeMaps (open_string shut_string)
set_option maxRecDepth 100000

theorem ipParses_lifted (os : Os) (started : os.Started) (H : Type) (enc : TypeId × Value → H) :
    ReturnsInHanded {} Tryd.checked os 5 .any (fun w args => (Rows.iPParsesSpec.pre enc Tryd.checked.prog Tryd.f5 [] false w args ∧ laidMetH Tryd.prog Rows.iPParsesRow.laid w) ∧ sizedMet enc Tryd.checked.prog Tryd.f5 (OpenSpec.ofChange Rows.iPParsesSpec) false w args)
      (Rows.iPParsesSpec.post enc Tryd.checked.prog Tryd.f5 false true false false) :=
  law_lift_laid started (X := fun w _ => laidMetH Tryd.prog Rows.iPParsesRow.laid w) (fun _ _ _ hh h => h.of_heap hh) (by kernel_rfl) Tryd.func5
    (ChangeSpec.witness_shaped (enc := enc) (C := Tryd.checked) (os := os) (X := fun w _ => laidMetH Tryd.prog Rows.iPParsesRow.laid w) false (World.laidAll Tryd.prog os Rows.iPParsesRow.laid) #[.string ⟨#[]⟩] 8 (World.laidAll_os _ _ _)
      (World.shaped_of_ZipB (by kernel_rfl) (by kernel_rfl)) (by kernel_rfl) (by kernel_rfl) (by kernel_rfl)
      (by rw [MakeChecks.laidMetH_plain _ _ _ (by kernel_rfl)]; exact laidMet_laidAll _ (by kernel_rfl) (by kernel_rfl)))
    rfl rfl Tryd.underlying4 (by kernel_rfl) (fun ds h => match ds, h with | [_], _ => rfl)
    (fun W base args ds p hval hA hsz hsh hL => by
      rw [Tryd.params5] at hA hval
      have hsz' := hsz
      rw [Tryd.params5] at hsz'
      obtain ⟨v0, d0, rfl, rfl, h0⟩ := trodAll_one hA
      obtain ⟨s, rfl, rfl, _, hs⟩ := open_string Tryd.underlying9 (hval 0 9 v0 rfl rfl) h0
      exact ipParses_walk s W (by unfold maxLen at hs; omega) (env_of hsh hL))
theorem ipParses_holds : Rows.IPParsesSaid :=
  OpenClaim.holds_of_wide 5 Tryd.f5 rfl rfl rfl rfl rfl rfl rfl ⟨rfl, rfl, rfl, rfl, rfl⟩ rfl rfl rfl rfl rfl (by kernel_rfl) Tryd.func5 (by kernel_rfl)
    (of_decide_eq_true (by kernel_rfl)) (by unfold Func.isWrapper; first | (rw [if_pos (by decide +kernel)]; kernel_rfl) | (rw [if_neg (by decide +kernel)]; exact ⟨rfl, rfl⟩))
    (fun os started H enc _ => ipParses_lifted os started H enc)
theorem ipParses_card : Rows.IPParsesCardSaid :=
  Claim7.holds_tied_plain_at .later [] [.data, .data, .data, .data, .sentinel, .sentinel, .pinned] true (true, "1069df1c01d747c24bec6fcc682d1846a393189551e65c820ffc957dc483a05c") true
    ipParses_holds (fun _ h => by cases h) (by kernel_rfl) (fun _ h => by cases h) iPParses_row_tie rfl ⟨rfl, rfl⟩ (by kernel_rfl) rfl
    (fun f fn hf hfn => by
      obtain rfl : f = 5 := Option.some.inj ((show Tryd.prog.funcNamed "wharf/wharflaw6.IPParses" = some 5 by kernel_rfl).symm.trans hf) |>.symm
      obtain rfl : fn = Tryd.f5 := (Option.some.inj (Tryd.func5.symm.trans hfn)).symm
      exact ⟨by kernel_rfl, fun j t ht => by
        rw [Tryd.params5] at ht
        have hm : t ∈ [9] := by simpa using Array.mem_of_getElem? ht
        have hall : ([9].all fun u => !Tryd.prog.wantsStandIn u) = true := by kernel_rfl
        exact (show Tryd.prog.wantsStandIn t = false by simpa using List.all_eq_true.1 hall t hm)⟩)
    (by kernel_rfl)
end Go.Proofs.YthjpdaflgphbbaaDoor
