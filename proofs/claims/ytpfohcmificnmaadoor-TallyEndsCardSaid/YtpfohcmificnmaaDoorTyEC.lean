/-
  TallyEnds, the row and its tied card: for every input the law 'a counter never says less than before, and stands still at its end' returns true, on every schedule,
  where the two listed tables of the library hold what the program's text lays (the tie is given).
-/
import Derived.Test.YtpfohcmificnmaaDoorTyE
import Derived.Test.YtpfohcmificnmaaDoorTyNoC
set_option linter.unusedVariables false
namespace Go.Proofs.YtpfohcmificnmaaDoor
open Go.ChangeShapes Go.WideShapes Go.ChangeAt Go.RowKit Go.Conc
open Go.ChangeMaps (open_string shut_string)
set_option maxRecDepth 100000

theorem open_intsR {H : Type} {enc : TypeId × Value → H} {w : World} {base b0 : Nat} {r : Reach} {sp : Nat → Bool} {held : Bool} {v : Value} {d : DataW H} {p : List MemPlace}
    (hv : Value.okWide Tryd.prog w r b0 22 v) (h : DataW.Trod enc Tryd.prog w base sp held 22 v d p) : ∃ A l c, v = .slice A l.length c ∧ IntsR w A l ∧ l.length ≤ maxLen := by
  obtain ⟨A, len, cap, rfl⟩ := okWide_slice Tryd.underlying22 hv
  obtain ⟨fuel, hf⟩ := h
  rcases open_ints Tryd.underlying22 Tryd.underlying3 (by kernel_rfl) hf with ⟨e, _⟩ | ⟨a, len', cap', zs, e, _, hl, hm, hz, hx, hcell, hwz⟩
  · obtain ⟨rfl, rfl, rfl⟩ : A = none ∧ len = 0 ∧ cap = 0 := by simpa [Value.cells] using e
    exact ⟨none, [], 0, rfl, ⟨by simp, fun h => absurd h (by simp)⟩, by simp⟩
  · obtain ⟨rfl, rfl, rfl⟩ : A = some a ∧ len = len' ∧ cap = cap' := by simpa [Value.cells] using e
    have hlz : len ≤ zs.length := by rw [hz]; split <;> omega
    have h3 : (zs.take len).length = len := by rw [List.length_take]; omega
    refine ⟨some a, zs.take len, cap, by rw [h3], ⟨by simp, fun hn => ⟨a, rfl, ?_, fun j u hu => ?_⟩⟩, by rw [h3]; omega⟩
    · have hb := block_lt_of_cell (hcell 0 (by omega))
      rwa [block_of_add] at hb
    · rw [List.getElem?_map] at hu
      by_cases hj : j < len
      · rw [List.getElem?_take_of_lt hj, List.getElem?_eq_getElem (by omega)] at hu
        rw [hcell j (by omega), List.getD_eq_getElem?_getD, List.getElem?_eq_getElem (by omega)]
        exact hu
      · rw [List.getElem?_eq_none (by rw [List.length_take]; omega)] at hu; cases hu
theorem tallyEnds_lifted (os : Os) (started : os.Started) (H : Type) (enc : TypeId × Value → H) (F : Stop.Interp) :
    ReturnsInLeavingWide { calm := true } Tryd.checked os 3 .any (fun w args => (Rows.tallyEndsSpec.pre enc Tryd.checked.prog Tryd.f3 [] false w args ∧ laidMetH Tryd.prog Rows.tallyEndsRow.laid w) ∧ sizedMet enc Tryd.checked.prog Tryd.f3 (OpenSpec.ofChange Rows.tallyEndsSpec) false w args)
      ((OpenSpec.ofChange Rows.tallyEndsSpec).postWith enc Tryd.checked.prog Tryd.f3 F (outsideKept [.timePasses]) false true false) :=
  law_lift_goes started (X := fun w _ => laidMetH Tryd.prog Rows.tallyEndsRow.laid w) (fun _ _ _ hh h => h.of_heap hh) own (by kernel_rfl) Tryd.func3
    (Clock.witness_at (enc := enc) (C := Tryd.checked) (os := os) (X := fun w _ => laidMetH Tryd.prog Rows.tallyEndsRow.laid w) (World.laidAll Tryd.prog os Rows.tallyEndsRow.laid) #[.int .i64 0, .slice none 0 0] 8 (World.laidAll_os _ _ _)
      (World.shaped_of_ZipB (by kernel_rfl) (by kernel_rfl)) (by kernel_rfl) (by kernel_rfl) (by kernel_rfl)
      (by rw [MakeChecks.laidMetH_plain _ _ _ (by kernel_rfl)]; exact laidMet_laidAll _ (by kernel_rfl) (by kernel_rfl)))
    rfl rfl Tryd.underlying4 (by kernel_rfl) (fun ds h => match ds, h with | [_, _], _ => rfl)
    (fun W base args ds p hval hA hsz hsh _ => by
      rw [Tryd.params3] at hA hval
      obtain ⟨v0, v1, d0, d1, p0, p1, rfl, rfl, rfl, h0, h1⟩ := trodAll_two hA
      obtain ⟨n, rfl⟩ := tally_i64 (hval 0 3 v0 rfl rfl) h0
      obtain ⟨A, l, c, rfl, hl, hmx⟩ := open_intsR (hval 1 22 v1 rfl rfl) h1
      exact tallyEnds_walk n A c l W hl (maxL_of hsh) hmx)
theorem tallyEnds_holds : Rows.TallyEndsSaid :=
  OpenClaim.holds_of_wide_leaving_time 3 Tryd.f3 rfl rfl rfl rfl rfl rfl rfl ⟨rfl, rfl, rfl, rfl, rfl⟩ rfl rfl rfl rfl rfl (by kernel_rfl) Tryd.func3 (by kernel_rfl)
    (of_decide_eq_true (by kernel_rfl)) (by unfold Func.isWrapper; first | (rw [if_pos (by decide +kernel)]; kernel_rfl) | (rw [if_neg (by decide +kernel)]; exact ⟨rfl, rfl⟩))
    (fun os started H enc _ F => tallyEnds_lifted os started H enc F)
theorem tallyEnds_card : Rows.TallyEndsCardSaid :=
  card_goes [.data, .pinned] true (true, "82116bc655075b4815ec2493ccd9854beeccd3b17afade43c7ea1d41f8f2eb1f") false
    tallyEnds_holds (by kernel_rfl) tallyEnds_row_tie rfl ⟨rfl, rfl⟩ (by kernel_rfl) rfl
    (fun f fn hf hfn => by
      obtain rfl : f = 3 := Option.some.inj ((show Tryd.prog.funcNamed "wharf/wharflaw2.TallyEnds" = some 3 by kernel_rfl).symm.trans hf) |>.symm
      obtain rfl : fn = Tryd.f3 := (Option.some.inj (Tryd.func3.symm.trans hfn)).symm
      exact ⟨by kernel_rfl, fun j t ht => by
        rw [Tryd.params3] at ht
        have hm : t ∈ [3, 22] := by simpa using Array.mem_of_getElem? ht
        have hall : ([3, 22].all fun u => !Tryd.prog.wantsStandIn u) = true := by kernel_rfl
        exact (show Tryd.prog.wantsStandIn t = false by simpa using List.all_eq_true.1 hall t hm)⟩)
    (by kernel_rfl)
end Go.Proofs.YtpfohcmificnmaaDoor
