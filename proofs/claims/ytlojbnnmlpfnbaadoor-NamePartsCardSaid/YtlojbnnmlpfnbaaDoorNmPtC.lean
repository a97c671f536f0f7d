/-
  NameParts, the row and its tied card: for every two texts the law 'a name behind another one, whose end leads to that one's tail, is read as the whole' returns true,
  where the two listed tables of the library hold what the program's text lays (the tie is given).
-/
import Derived.Test.YtlojbnnmlpfnbaaDoorNmPt
import Derived.Test.YtlojbnnmlpfnbaaDoorLawD
import Derived.Test.YtlojbnnmlpfnbaaDoorOpen
import Derived.Test.YtlojbnnmlpfnbaaDoorTie
import Derived.Test.YtlojbnnmlpfnbaaDoorCards
import Derived.SevenTiedAt
set_option linter.unusedVariables false
namespace Go.Proofs.YtlojbnnmlpfnbaaDoor
open Go.ChangeShapes Go.WideShapes Go.ChangeAt Go.RowKit
open Go.ChangeMaps (open_string shut_string)
set_option maxRecDepth 100000

theorem maxL_of {w : World} (h : w.ShapedOpen Tryd.prog) : MaxL w := by
  obtain ⟨m, hm⟩ := Tryd.laysM146.s1_3 w h
  exact ⟨m, hm⟩
theorem str_leD {H : Type} {ts : List TypeId} {ds : List (DataW H)} (h : (DataW.weightsEach Tryd.prog ts ds).all (· ≤ reachBytes) = true) {j : Nat} {t : TypeId} {s : ByteArray} (ht : ts[j]? = some t) (hd : ds[j]? = some (.lit (.string s.data.toList))) : s.size ≤ 140737488355327 := by
  have hr := reachBytes_lt
  have := List.all_eq_true.1 h _ (DataW.weights_mem_each ht hd s.data.toList.length (by simp [DataW.weights]))
  simp only [decide_eq_true_eq, str_len] at this
  omega
theorem nameParts_walk (a b : ByteArray) (w : World) (hm : MaxL w) (ha : a.size ≤ 140737488355327) (hb : b.size ≤ 140737488355327) :
    Calls Tryd.prog 4 #[.string a, .string b] w fun e w' => e = .returned (.bool true) ∧ Below w.heap.size w w' := by
  by_cases h : 200 < (a.size : Int) + b.size ∨ a.size = 0 ∨ b.size = 0
  · exact nameParts_out a b w ha hb h
  · exact nameParts_in a b w hm (by omega) (by omega) (by omega)
theorem nameParts_lifted (os : Os) (started : os.Started) (H : Type) (enc : TypeId × Value → H) :
    ReturnsInHanded {} Tryd.checked os 4 .any (fun w args => (Rows.namePartsSpec.pre enc Tryd.checked.prog Tryd.f4 [] false w args ∧ laidMetH Tryd.prog Rows.namePartsRow.laid w) ∧ sizedMet enc Tryd.checked.prog Tryd.f4 (OpenSpec.ofChange Rows.namePartsSpec) false w args)
      (Rows.namePartsSpec.post enc Tryd.checked.prog Tryd.f4 false true false false) :=
  law_lift_laid started (X := fun w _ => laidMetH Tryd.prog Rows.namePartsRow.laid w) (fun _ _ _ hh h => h.of_heap hh) (by kernel_rfl) Tryd.func4
    (ChangeSpec.witness_shaped (enc := enc) (C := Tryd.checked) (os := os) (X := fun w _ => laidMetH Tryd.prog Rows.namePartsRow.laid w) false (World.laidAll Tryd.prog os Rows.namePartsRow.laid) #[.string ⟨#[]⟩, .string ⟨#[]⟩] 8 (World.laidAll_os _ _ _)
      (World.shaped_of_ZipB (by kernel_rfl) (by kernel_rfl)) (by kernel_rfl) (by kernel_rfl) (by kernel_rfl)
      (by rw [MakeChecks.laidMetH_plain _ _ _ (by kernel_rfl)]; exact laidMet_laidAll _ (by kernel_rfl) (by kernel_rfl)))
    rfl rfl Tryd.underlying4 (by kernel_rfl) (fun ds h => match ds, h with | [_, _], _ => rfl)
    (fun W base args ds p hval hA hsz hsh _ => by
      rw [Tryd.params4] at hA hval
      have hsz' := hsz
      rw [Tryd.params4] at hsz'
      obtain ⟨v0, v1, d0, d1, p0, p1, rfl, rfl, rfl, h0, h1⟩ := trodAll_two hA
      obtain ⟨s, rfl, rfl, _, hs⟩ := open_string Tryd.underlying9 (hval 0 9 v0 rfl rfl) h0
      obtain ⟨t, rfl, rfl, _, ht⟩ := open_string Tryd.underlying9 (hval 1 9 v1 rfl rfl) h1
      exact nameParts_walk s t W (maxL_of hsh) (str_leD hsz' (j := 0) rfl rfl) (str_leD hsz' (j := 1) rfl rfl))
theorem nameParts_holds : Rows.NamePartsSaid :=
  OpenClaim.holds_of_wide 4 Tryd.f4 rfl rfl rfl rfl rfl rfl rfl ⟨rfl, rfl, rfl, rfl, rfl⟩ rfl rfl rfl rfl rfl (by kernel_rfl) Tryd.func4 (by kernel_rfl)
    (of_decide_eq_true (by kernel_rfl)) (by unfold Func.isWrapper; first | (rw [if_pos (by decide +kernel)]; kernel_rfl) | (rw [if_neg (by decide +kernel)]; exact ⟨rfl, rfl⟩))
    (fun os started H enc _ => nameParts_lifted os started H enc)
theorem nameParts_card : Rows.NamePartsCardSaid :=
  Claim7.holds_tied_plain_at .later [] [.data, .pinned] true (true, "bc2065b27242386fdd498abaa08d83801c26f4276ccc05fcfa0ebb482233bc99") false
    nameParts_holds (fun _ h => by cases h) (by kernel_rfl) (fun _ h => by cases h) nameParts_row_tie rfl ⟨rfl, rfl⟩ (by kernel_rfl) rfl
    (fun f fn hf hfn => by
      obtain rfl : f = 4 := Option.some.inj ((show Tryd.prog.funcNamed "wharf/wharflaw21.NameParts" = some 4 by kernel_rfl).symm.trans hf) |>.symm
      obtain rfl : fn = Tryd.f4 := (Option.some.inj (Tryd.func4.symm.trans hfn)).symm
      exact ⟨by kernel_rfl, fun j t ht => by
        rw [Tryd.params4] at ht
        have hm : t ∈ [9, 9] := by simpa using Array.mem_of_getElem? ht
        have hall : ([9, 9].all fun u => !Tryd.prog.wantsStandIn u) = true := by kernel_rfl
        exact (show Tryd.prog.wantsStandIn t = false by simpa using List.all_eq_true.1 hall t hm)⟩)
    (by kernel_rfl)
end Go.Proofs.YtlojbnnmlpfnbaaDoor
