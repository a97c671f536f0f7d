/-
  ResolveIDs, the row and its tied card: for every number of questions and every draw the law 'questions that are asked one behind the other have unlike ids, though the draw is one, and go each to its own answer' returns true,
  where the two listed tables of the library hold what the program's text lays (the tie is given).
-/
import Derived.Test.YtpfkmmmlocmakaaDoorRk6
import Derived.Test.YtpfkmmmlocmakaaDoorLawD
import Derived.Test.YtpfkmmmlocmakaaDoorOpen
import Derived.Test.YtpfkmmmlocmakaaDoorTie
import Derived.Test.YtpfkmmmlocmakaaDoorCards
import Derived.SevenTiedAt
set_option linter.unusedVariables false
namespace Go.Proofs.YtpfkmmmlocmakaaDoor
open Go.ChangeShapes Go.WideShapes Go.ChangeAt Go.RowKit
open Go.ChangeMaps (open_string shut_string)
set_option maxRecDepth 100000

theorem maxL_of {w : World} (h : w.ShapedOpen Tryd.prog) : MaxL w ∧ 0 < w.heap.size := by
  obtain ⟨m, hm⟩ := Tryd.laysM146.s1_3 w h
  exact ⟨⟨m, hm⟩, block_lt_of_cell hm⟩
theorem rv_i64 {H : Type} {enc : TypeId × Value → H} {w : World} {base b0 : Nat} {r : Reach} {sp : Nat → Bool} {held : Bool} {v : Value} {d : DataW H} {p : List MemPlace}
    (hv : Value.okWide Tryd.prog w r b0 3 v) (h : DataW.Trod enc Tryd.prog w base sp held 3 v d p) : ∃ n, v = .int .i64 n := by
  obtain ⟨k, rfl⟩ := okWide_int Tryd.underlying3 hv
  exact ⟨_, rfl⟩

theorem ids_lifted (os : Os) (started : os.Started) (H : Type) (enc : TypeId × Value → H) :
    ReturnsInHanded {} Tryd.checked os 7 .any (fun w args => (Rows.resolveIDsSpec.pre enc Tryd.checked.prog Tryd.f7 [] false w args ∧ laidMetH Tryd.prog Rows.resolveIDsRow.laid w) ∧ sizedMet enc Tryd.checked.prog Tryd.f7 (OpenSpec.ofChange Rows.resolveIDsSpec) false w args)
      (Rows.resolveIDsSpec.post enc Tryd.checked.prog Tryd.f7 false true false false) :=
  law_lift_laid started (X := fun w _ => laidMetH Tryd.prog Rows.resolveIDsRow.laid w) (fun _ _ _ hh h => h.of_heap hh) (by kernel_rfl) Tryd.func7
    (ChangeSpec.witness_shaped (enc := enc) (C := Tryd.checked) (os := os) (X := fun w _ => laidMetH Tryd.prog Rows.resolveIDsRow.laid w) false (World.laidAll Tryd.prog os Rows.resolveIDsRow.laid) #[.int .i64 0, .int .i64 0] 8 (World.laidAll_os _ _ _)
      (World.shaped_of_ZipB (by kernel_rfl) (by kernel_rfl)) (by kernel_rfl) (by kernel_rfl) (by kernel_rfl)
      (by rw [MakeChecks.laidMetH_plain _ _ _ (by kernel_rfl)]; exact laidMet_laidAll _ (by kernel_rfl) (by kernel_rfl)))
    rfl rfl Tryd.underlying4 (by kernel_rfl) (fun ds h => match ds, h with | [_, _], _ => rfl)
    (fun W base args ds p hval hA hsz hsh _ => by
      rw [Tryd.params7] at hA hval
      have hsz' := hsz
      rw [Tryd.params7] at hsz'
      obtain ⟨v0, v1, d0, d1, p0, p1, rfl, rfl, rfl, h0, h1⟩ := trodAll_two hA
      obtain ⟨n, rfl⟩ := rv_i64 (hval 0 3 v0 rfl rfl) h0
      obtain ⟨dr, rfl⟩ := rv_i64 (hval 1 3 v1 rfl rfl) h1
      exact ids_walk W n dr (maxL_of hsh).1 (maxL_of hsh).2)
theorem ids_holds : Rows.ResolveIDsSaid :=
  OpenClaim.holds_of_wide 7 Tryd.f7 rfl rfl rfl rfl rfl rfl rfl ⟨rfl, rfl, rfl, rfl, rfl⟩ rfl rfl rfl rfl rfl (by kernel_rfl) Tryd.func7 (by kernel_rfl)
    (of_decide_eq_true (by kernel_rfl)) (by unfold Func.isWrapper; first | (rw [if_pos (by decide +kernel)]; kernel_rfl) | (rw [if_neg (by decide +kernel)]; exact ⟨rfl, rfl⟩))
    (fun os started H enc _ => ids_lifted os started H enc)
theorem ids_card : Rows.ResolveIDsCardSaid :=
  Claim7.holds_tied_plain_at .later [] [.data, .pinned] true (true, "8ecd3e9536971bc301382af97ce5cfa94ee62867d12c336a122fe5d0484e9763") false
    ids_holds (fun _ h => by cases h) (by kernel_rfl) (fun _ h => by cases h) resolveIDs_row_tie rfl ⟨rfl, rfl⟩ (by kernel_rfl) rfl
    (fun f fn hf hfn => by
      obtain rfl : f = 7 := Option.some.inj ((show Tryd.prog.funcNamed "wharf/wharflaw22.ResolveIDs" = some 7 by kernel_rfl).symm.trans hf) |>.symm
      obtain rfl : fn = Tryd.f7 := (Option.some.inj (Tryd.func7.symm.trans hfn)).symm
      exact ⟨by kernel_rfl, fun j t ht => by
        rw [Tryd.params7] at ht
        have hm : t ∈ [3, 3] := by simpa using Array.mem_of_getElem? ht
        have hall : ([3, 3].all fun u => !Tryd.prog.wantsStandIn u) = true := by kernel_rfl
        exact (show Tryd.prog.wantsStandIn t = false by simpa using List.all_eq_true.1 hall t hm)⟩)
    (by kernel_rfl)
end Go.Proofs.YtpfkmmmlocmakaaDoor
