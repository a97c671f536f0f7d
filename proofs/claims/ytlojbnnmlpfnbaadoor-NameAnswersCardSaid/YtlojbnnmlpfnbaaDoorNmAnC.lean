/-
  NameAnswers, the row and its tied card: for every count and every number the law 'a message's records are told in their order, however many' returns true,
  where the two listed tables of the library hold what the program's text lays (the tie is given).
-/
import Derived.Test.YtlojbnnmlpfnbaaDoorNmAn
import Derived.Test.YtlojbnnmlpfnbaaDoorLawD
import Derived.Test.YtlojbnnmlpfnbaaDoorOpen
import Derived.Test.YtlojbnnmlpfnbaaDoorTie
import Derived.Test.YtlojbnnmlpfnbaaDoorCards
import Derived.SevenTiedAt
set_option linter.unusedVariables false
namespace Go.Proofs.YtlojbnnmlpfnbaaDoor
open Go.ChangeShapes Go.WideShapes Go.ChangeAt Go.RowKit
set_option maxRecDepth 100000

theorem maxL_of {w : World} (h : w.ShapedOpen Tryd.prog) : MaxL w := by
  obtain ⟨m, hm⟩ := Tryd.laysM146.s1_3 w h
  exact ⟨m, hm⟩
theorem answers_i64 {H : Type} {enc : TypeId × Value → H} {w : World} {base b0 : Nat} {r : Reach} {sp : Nat → Bool} {held : Bool} {v : Value} {d : DataW H} {p : List MemPlace}
    (hv : Value.okWide Tryd.prog w r b0 3 v) (h : DataW.Trod enc Tryd.prog w base sp held 3 v d p) : ∃ n, v = .int .i64 n := by
  obtain ⟨k, rfl⟩ := okWide_int Tryd.underlying3 hv
  exact ⟨_, rfl⟩
theorem nameAnswers_lifted (os : Os) (started : os.Started) (H : Type) (enc : TypeId × Value → H) :
    ReturnsInHanded {} Tryd.checked os 7 .any (fun w args => (Rows.nameAnswersSpec.pre enc Tryd.checked.prog Tryd.f7 [] false w args ∧ laidMetH Tryd.prog Rows.nameAnswersRow.laid w) ∧ sizedMet enc Tryd.checked.prog Tryd.f7 (OpenSpec.ofChange Rows.nameAnswersSpec) false w args)
      (Rows.nameAnswersSpec.post enc Tryd.checked.prog Tryd.f7 false true false false) :=
  law_lift_laid started (X := fun w _ => laidMetH Tryd.prog Rows.nameAnswersRow.laid w) (fun _ _ _ hh h => h.of_heap hh) (by kernel_rfl) Tryd.func7
    (ChangeSpec.witness_shaped (enc := enc) (C := Tryd.checked) (os := os) (X := fun w _ => laidMetH Tryd.prog Rows.nameAnswersRow.laid w) false (World.laidAll Tryd.prog os Rows.nameAnswersRow.laid) #[.int .i64 0, .int .i64 0] 8 (World.laidAll_os _ _ _)
      (World.shaped_of_ZipB (by kernel_rfl) (by kernel_rfl)) (by kernel_rfl) (by kernel_rfl) (by kernel_rfl)
      (by rw [MakeChecks.laidMetH_plain _ _ _ (by kernel_rfl)]; exact laidMet_laidAll _ (by kernel_rfl) (by kernel_rfl)))
    rfl rfl Tryd.underlying4 (by kernel_rfl) (fun ds h => match ds, h with | [_, _], _ => rfl)
    (fun W base args ds p hval hA hsz hsh _ => by
      rw [Tryd.params7] at hA hval
      have hsz' := hsz
      rw [Tryd.params7] at hsz'
      obtain ⟨v0, v1, d0, d1, p0, p1, rfl, rfl, rfl, h0, h1⟩ := trodAll_two hA
      obtain ⟨n, rfl⟩ := answers_i64 (hval 0 3 v0 rfl rfl) h0
      obtain ⟨id, rfl⟩ := answers_i64 (hval 1 3 v1 rfl rfl) h1
      exact nameAnswers_walk n id W (maxL_of hsh))
theorem nameAnswers_holds : Rows.NameAnswersSaid :=
  OpenClaim.holds_of_wide 7 Tryd.f7 rfl rfl rfl rfl rfl rfl rfl ⟨rfl, rfl, rfl, rfl, rfl⟩ rfl rfl rfl rfl rfl (by kernel_rfl) Tryd.func7 (by kernel_rfl)
    (of_decide_eq_true (by kernel_rfl)) (by unfold Func.isWrapper; first | (rw [if_pos (by decide +kernel)]; kernel_rfl) | (rw [if_neg (by decide +kernel)]; exact ⟨rfl, rfl⟩))
    (fun os started H enc _ => nameAnswers_lifted os started H enc)
theorem nameAnswers_card : Rows.NameAnswersCardSaid :=
  Claim7.holds_tied_plain_at .later [] [.data, .pinned] true (true, "bc2065b27242386fdd498abaa08d83801c26f4276ccc05fcfa0ebb482233bc99") false
    nameAnswers_holds (fun _ h => by cases h) (by kernel_rfl) (fun _ h => by cases h) nameAnswers_row_tie rfl ⟨rfl, rfl⟩ (by kernel_rfl) rfl
    (fun f fn hf hfn => by
      obtain rfl : f = 7 := Option.some.inj ((show Tryd.prog.funcNamed "wharf/wharflaw21.NameAnswers" = some 7 by kernel_rfl).symm.trans hf) |>.symm
      obtain rfl : fn = Tryd.f7 := (Option.some.inj (Tryd.func7.symm.trans hfn)).symm
      exact ⟨by kernel_rfl, fun j t ht => by
        rw [Tryd.params7] at ht
        have hm : t ∈ [3, 3] := by simpa using Array.mem_of_getElem? ht
        have hall : ([3, 3].all fun u => !Tryd.prog.wantsStandIn u) = true := by kernel_rfl
        exact (show Tryd.prog.wantsStandIn t = false by simpa using List.all_eq_true.1 hall t hm)⟩)
    (by kernel_rfl)
end Go.Proofs.YtlojbnnmlpfnbaaDoor
