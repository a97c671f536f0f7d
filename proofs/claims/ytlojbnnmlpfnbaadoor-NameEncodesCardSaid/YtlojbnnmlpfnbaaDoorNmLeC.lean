/-
  NameEncodes, the row and its tied card: for every message the law 'any message is bytes, or refused' returns true,
  where the two listed tables of the library hold what the program's text lays (the tie is given).
-/
import Derived.Test.YtlojbnnmlpfnbaaDoorNmLe
import Derived.Test.YtlojbnnmlpfnbaaDoorLawD
import Derived.Test.YtlojbnnmlpfnbaaDoorOpen
import Derived.Test.YtlojbnnmlpfnbaaDoorNmOm
import Derived.Test.YtlojbnnmlpfnbaaDoorTie
import Derived.Test.YtlojbnnmlpfnbaaDoorCards
import Derived.SevenTiedAt
set_option linter.unusedVariables false
namespace Go.Proofs.YtlojbnnmlpfnbaaDoor
open Go.ChangeShapes Go.WideShapes Go.ChangeAt Go.RowKit
open Go.ChangeMaps (open_string shut_string)
set_option maxRecDepth 100000

theorem maxL_of {w : World} (h : w.ShapedOpen Tryd.prog) : MaxL w := by
  obtain ⟨m, hm⟩ := Tryd.laysM146.s1_3 w h
  exact ⟨m, hm⟩
theorem nameEncodes_lifted (os : Os) (started : os.Started) (H : Type) (enc : TypeId × Value → H) :
    ReturnsInHanded {} Tryd.checked os 5 .any (fun w args => (Rows.nameEncodesSpec.pre enc Tryd.checked.prog Tryd.f5 [] false w args ∧ laidMetH Tryd.prog Rows.nameEncodesRow.laid w) ∧ sizedMet enc Tryd.checked.prog Tryd.f5 (OpenSpec.ofChange Rows.nameEncodesSpec) false w args)
      (Rows.nameEncodesSpec.post enc Tryd.checked.prog Tryd.f5 false true false false) :=
  law_lift_laid started (X := fun w _ => laidMetH Tryd.prog Rows.nameEncodesRow.laid w) (fun _ _ _ hh h => h.of_heap hh) (by kernel_rfl) Tryd.func5
    (ChangeSpec.witness_shaped (enc := enc) (C := Tryd.checked) (os := os) (X := fun w _ => laidMetH Tryd.prog Rows.nameEncodesRow.laid w) false (World.laidAll Tryd.prog os Rows.nameEncodesRow.laid) #[.agg #[.int .i64 0, .int .i64 0, .slice none 0 0, .slice none 0 0]] 8 (World.laidAll_os _ _ _)
      (World.shaped_of_ZipB (by kernel_rfl) (by kernel_rfl)) (by kernel_rfl) (by kernel_rfl) (by kernel_rfl)
      (by rw [MakeChecks.laidMetH_plain _ _ _ (by kernel_rfl)]; exact laidMet_laidAll _ (by kernel_rfl) (by kernel_rfl)))
    rfl rfl Tryd.underlying4 (by kernel_rfl) (fun ds h => match ds, h with | [_], _ => rfl)
    (fun W base args ds p hval hA hsz hsh _ => by
      rw [Tryd.params5] at hA hval
      have hsz' := hsz
      rw [Tryd.params5] at hsz'
      obtain ⟨v0, d0, rfl, rfl, h0⟩ := trodAll_one hA
      have hw : ∀ m ∈ d0.weights Tryd.prog 36, m ≤ reachBytes := fun m hm => of_decide_eq_true (List.all_eq_true.1 hsz' _ (DataW.weights_mem_each (j := 0) rfl rfl m hm))
      obtain ⟨M, rfl, hM⟩ := open_msg (hval 0 36 v0 rfl rfl) h0 hw
      exact nameEncodes_walk M W hM (maxL_of hsh))
theorem nameEncodes_holds : Rows.NameEncodesSaid :=
  OpenClaim.holds_of_wide 5 Tryd.f5 rfl rfl rfl rfl rfl rfl rfl ⟨rfl, rfl, rfl, rfl, rfl⟩ rfl rfl rfl rfl rfl (by kernel_rfl) Tryd.func5 (by kernel_rfl)
    (of_decide_eq_true (by kernel_rfl)) (by unfold Func.isWrapper; first | (rw [if_pos (by decide +kernel)]; kernel_rfl) | (rw [if_neg (by decide +kernel)]; exact ⟨rfl, rfl⟩))
    (fun os started H enc _ => nameEncodes_lifted os started H enc)
theorem nameEncodes_card : Rows.NameEncodesCardSaid :=
  Claim7.holds_tied_plain_at .later [] [.data, .pinned] true (true, "bc2065b27242386fdd498abaa08d83801c26f4276ccc05fcfa0ebb482233bc99") false
    nameEncodes_holds (fun _ h => by cases h) (by kernel_rfl) (fun _ h => by cases h) nameEncodes_row_tie rfl ⟨rfl, rfl⟩ (by kernel_rfl) rfl
    (fun f fn hf hfn => by
      obtain rfl : f = 5 := Option.some.inj ((show Tryd.prog.funcNamed "wharf/wharflaw21.NameEncodes" = some 5 by kernel_rfl).symm.trans hf) |>.symm
      obtain rfl : fn = Tryd.f5 := (Option.some.inj (Tryd.func5.symm.trans hfn)).symm
      exact ⟨by kernel_rfl, fun j t ht => by
        rw [Tryd.params5] at ht
        have hm : t ∈ [36] := by simpa using Array.mem_of_getElem? ht
        have hall : ([36].all fun u => !Tryd.prog.wantsStandIn u) = true := by kernel_rfl
        exact (show Tryd.prog.wantsStandIn t = false by simpa using List.all_eq_true.1 hall t hm)⟩)
    (by kernel_rfl)
end Go.Proofs.YtlojbnnmlpfnbaaDoor
