/-
  TallyNames, the row and its tied card: for every input the law 'each counter has its name, and each name its counter; no other has one' returns true, on every schedule,
  where the two listed tables of the library hold what the program's text lays (the tie is given).
-/
import Derived.Test.YtpfohcmificnmaaDoorTyNa
import Derived.Test.YtpfohcmificnmaaDoorTyNoC
set_option linter.unusedVariables false
namespace Go.Proofs.YtpfohcmificnmaaDoor
open Go.ChangeShapes Go.WideShapes Go.ChangeAt Go.RowKit Go.Conc
open Go.ChangeMaps (open_string shut_string)
set_option maxRecDepth 100000

theorem tallyNames_lifted (os : Os) (started : os.Started) (H : Type) (enc : TypeId × Value → H) (F : Stop.Interp) :
    ReturnsInLeavingWide { calm := true } Tryd.checked os 4 .any (fun w args => (Rows.tallyNamesSpec.pre enc Tryd.checked.prog Tryd.f4 [] false w args ∧ laidMetH Tryd.prog Rows.tallyNamesRow.laid w) ∧ sizedMet enc Tryd.checked.prog Tryd.f4 (OpenSpec.ofChange Rows.tallyNamesSpec) false w args)
      ((OpenSpec.ofChange Rows.tallyNamesSpec).postWith enc Tryd.checked.prog Tryd.f4 F (outsideKept [.timePasses]) false true false) :=
  law_lift_goes started (X := fun w _ => laidMetH Tryd.prog Rows.tallyNamesRow.laid w) (fun _ _ _ hh h => h.of_heap hh) own (by kernel_rfl) Tryd.func4
    (Clock.witness_at (enc := enc) (C := Tryd.checked) (os := os) (X := fun w _ => laidMetH Tryd.prog Rows.tallyNamesRow.laid w) (World.laidAll Tryd.prog os Rows.tallyNamesRow.laid) #[.int .i64 0, .string ⟨#[]⟩] 8 (World.laidAll_os _ _ _)
      (World.shaped_of_ZipB (by kernel_rfl) (by kernel_rfl)) (by kernel_rfl) (by kernel_rfl) (by kernel_rfl)
      (by rw [MakeChecks.laidMetH_plain _ _ _ (by kernel_rfl)]; exact laidMet_laidAll _ (by kernel_rfl) (by kernel_rfl)))
    rfl rfl Tryd.underlying4 (by kernel_rfl) (fun ds h => match ds, h with | [_, _], _ => rfl)
    (fun W base args ds p hval hA hsz hsh _ => by
      rw [Tryd.params4] at hA hval
      obtain ⟨v0, v1, d0, d1, p0, p1, rfl, rfl, rfl, h0, h1⟩ := trodAll_two hA
      obtain ⟨n, rfl⟩ := tally_i64 (hval 0 3 v0 rfl rfl) h0
      obtain ⟨s, rfl, rfl, _, hs⟩ := open_string Tryd.underlying9 (hval 1 9 v1 rfl rfl) h1
      exact tallyNames_walk n s W (maxL_of hsh) (by unfold maxLen at hs ⊢; omega))
theorem tallyNames_holds : Rows.TallyNamesSaid :=
  OpenClaim.holds_of_wide_leaving_time 4 Tryd.f4 rfl rfl rfl rfl rfl rfl rfl ⟨rfl, rfl, rfl, rfl, rfl⟩ rfl rfl rfl rfl rfl (by kernel_rfl) Tryd.func4 (by kernel_rfl)
    (of_decide_eq_true (by kernel_rfl)) (by unfold Func.isWrapper; first | (rw [if_pos (by decide +kernel)]; kernel_rfl) | (rw [if_neg (by decide +kernel)]; exact ⟨rfl, rfl⟩))
    (fun os started H enc _ F => tallyNames_lifted os started H enc F)
theorem tallyNames_card : Rows.TallyNamesCardSaid :=
  card_goes [.data, .pinned] true (true, "82116bc655075b4815ec2493ccd9854beeccd3b17afade43c7ea1d41f8f2eb1f") false
    tallyNames_holds (by kernel_rfl) tallyNames_row_tie rfl ⟨rfl, rfl⟩ (by kernel_rfl) rfl
    (fun f fn hf hfn => by
      obtain rfl : f = 4 := Option.some.inj ((show Tryd.prog.funcNamed "wharf/wharflaw2.TallyNames" = some 4 by kernel_rfl).symm.trans hf) |>.symm
      obtain rfl : fn = Tryd.f4 := (Option.some.inj (Tryd.func4.symm.trans hfn)).symm
      exact ⟨by kernel_rfl, fun j t ht => by
        rw [Tryd.params4] at ht
        have hm : t ∈ [3, 9] := by simpa using Array.mem_of_getElem? ht
        have hall : ([3, 9].all fun u => !Tryd.prog.wantsStandIn u) = true := by kernel_rfl
        exact (show Tryd.prog.wantsStandIn t = false by simpa using List.all_eq_true.1 hall t hm)⟩)
    (by kernel_rfl)
end Go.Proofs.YtpfohcmificnmaaDoor
