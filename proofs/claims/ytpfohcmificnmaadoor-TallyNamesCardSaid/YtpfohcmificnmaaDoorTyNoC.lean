/-
  TallyOfNothing, the row and its tied card: for every input the law 'a nil board takes nothing and says nothing' returns true, on every schedule,
  where the two listed tables of the library hold what the program's text lays (the tie is given).
-/
import Derived.Test.YtpfohcmificnmaaDoorTyNo
import Derived.Test.YtpfohcmificnmaaDoorLawG
import Derived.Test.YtpfohcmificnmaaDoorTie
import Derived.Test.YtpfohcmificnmaaDoorCards
set_option linter.unusedVariables false
namespace Go.Proofs.YtpfohcmificnmaaDoor
open Go.ChangeShapes Go.WideShapes Go.ChangeAt Go.RowKit Go.Conc
open Go.ChangeMaps (open_string shut_string)
set_option maxRecDepth 100000

theorem maxL_of {w : World} (h : w.ShapedOpen Tryd.prog) : MaxL w := by
  obtain ⟨m, hm⟩ := Tryd.laysM146.s1_3 w h
  exact ⟨m, hm⟩
theorem tally_i64 {H : Type} {enc : TypeId × Value → H} {w : World} {base b0 : Nat} {r : Reach} {sp : Nat → Bool} {held : Bool} {v : Value} {d : DataW H} {p : List MemPlace}
    (hv : Value.okWide Tryd.prog w r b0 3 v) (h : DataW.Trod enc Tryd.prog w base sp held 3 v d p) : ∃ n, v = .int .i64 n := by
  obtain ⟨k, rfl⟩ := okWide_int Tryd.underlying3 hv
  exact ⟨_, rfl⟩
theorem tallyOfNothing_lifted (os : Os) (started : os.Started) (H : Type) (enc : TypeId × Value → H) (F : Stop.Interp) :
    ReturnsInLeavingWide { calm := true } Tryd.checked os 7 .any (fun w args => (Rows.tallyOfNothingSpec.pre enc Tryd.checked.prog Tryd.f7 [] false w args ∧ laidMetH Tryd.prog Rows.tallyOfNothingRow.laid w) ∧ sizedMet enc Tryd.checked.prog Tryd.f7 (OpenSpec.ofChange Rows.tallyOfNothingSpec) false w args)
      ((OpenSpec.ofChange Rows.tallyOfNothingSpec).postWith enc Tryd.checked.prog Tryd.f7 F (outsideKept [.timePasses]) false true false) :=
  law_lift_goes started (X := fun w _ => laidMetH Tryd.prog Rows.tallyOfNothingRow.laid w) (fun _ _ _ hh h => h.of_heap hh) own (by kernel_rfl) Tryd.func7
    (Clock.witness_at (enc := enc) (C := Tryd.checked) (os := os) (X := fun w _ => laidMetH Tryd.prog Rows.tallyOfNothingRow.laid w) (World.laidAll Tryd.prog os Rows.tallyOfNothingRow.laid) #[.int .i64 0, .int .i64 0] 8 (World.laidAll_os _ _ _)
      (World.shaped_of_ZipB (by kernel_rfl) (by kernel_rfl)) (by kernel_rfl) (by kernel_rfl) (by kernel_rfl)
      (by rw [MakeChecks.laidMetH_plain _ _ _ (by kernel_rfl)]; exact laidMet_laidAll _ (by kernel_rfl) (by kernel_rfl)))
    rfl rfl Tryd.underlying4 (by kernel_rfl) (fun ds h => match ds, h with | [_, _], _ => rfl)
    (fun W base args ds p hval hA hsz hsh _ => by
      rw [Tryd.params7] at hA hval
      obtain ⟨v0, v1, d0, d1, p0, p1, rfl, rfl, rfl, h0, h1⟩ := trodAll_two hA
      obtain ⟨n, rfl⟩ := tally_i64 (hval 0 3 v0 rfl rfl) h0
      obtain ⟨m, rfl⟩ := tally_i64 (hval 1 3 v1 rfl rfl) h1
      exact tallyOfNothing_walk n m W (maxL_of hsh))
theorem tallyOfNothing_holds : Rows.TallyOfNothingSaid :=
  OpenClaim.holds_of_wide_leaving_time 7 Tryd.f7 rfl rfl rfl rfl rfl rfl rfl ⟨rfl, rfl, rfl, rfl, rfl⟩ rfl rfl rfl rfl rfl (by kernel_rfl) Tryd.func7 (by kernel_rfl)
    (of_decide_eq_true (by kernel_rfl)) (by unfold Func.isWrapper; first | (rw [if_pos (by decide +kernel)]; kernel_rfl) | (rw [if_neg (by decide +kernel)]; exact ⟨rfl, rfl⟩))
    (fun os started H enc _ F => tallyOfNothing_lifted os started H enc F)
theorem tallyOfNothing_card : Rows.TallyOfNothingCardSaid :=
  card_goes [.data, .pinned] true (true, "82116bc655075b4815ec2493ccd9854beeccd3b17afade43c7ea1d41f8f2eb1f") false
    tallyOfNothing_holds (by kernel_rfl) tallyOfNothing_row_tie rfl ⟨rfl, rfl⟩ (by kernel_rfl) rfl
    (fun f fn hf hfn => by
      obtain rfl : f = 7 := Option.some.inj ((show Tryd.prog.funcNamed "wharf/wharflaw2.TallyOfNothing" = some 7 by kernel_rfl).symm.trans hf) |>.symm
      obtain rfl : fn = Tryd.f7 := (Option.some.inj (Tryd.func7.symm.trans hfn)).symm
      exact ⟨by kernel_rfl, fun j t ht => by
        rw [Tryd.params7] at ht
        have hm : t ∈ [3, 3] := by simpa using Array.mem_of_getElem? ht
        have hall : ([3, 3].all fun u => !Tryd.prog.wantsStandIn u) = true := by kernel_rfl
        exact (show Tryd.prog.wantsStandIn t = false by simpa using List.all_eq_true.1 hall t hm)⟩)
    (by kernel_rfl)
end Go.Proofs.YtpfohcmificnmaaDoor
