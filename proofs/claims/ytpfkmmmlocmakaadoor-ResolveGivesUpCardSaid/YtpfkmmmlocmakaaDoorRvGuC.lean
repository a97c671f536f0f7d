/-
  ResolveGivesUp, the row and its tied card: for all servers and every tick the law 'a question that nobody answers is asked AskTimes times, of one server behind the other, and then told as ErrTimeout' returns true,
  where the two listed tables of the library hold what the program's text lays (the tie is given).
-/
import Derived.Test.YtpfkmmmlocmakaaDoorRvGu
import Derived.Test.YtpfkmmmlocmakaaDoorLawD
import Derived.Test.YtpfkmmmlocmakaaDoorOpen
import Derived.Test.YtpfkmmmlocmakaaDoorTie
import Derived.Test.YtpfkmmmlocmakaaDoorCards
import Derived.SevenTiedAt
set_option linter.unusedVariables false
namespace Go.Proofs.YtpfkmmmlocmakaaDoor
open Go.ChangeShapes Go.WideShapes Go.ChangeAt Go.RowKit
open Go.ChangeMaps (open_string shut_string)
set_option maxRecDepth 100000

theorem maxL_of {w : World} (h : w.ShapedOpen Tryd.prog) : MaxL w ∧ 0 < w.heap.size := by
  obtain ⟨m, hm⟩ := Tryd.laysM146.s1_3 w h
  exact ⟨⟨m, hm⟩, block_lt_of_cell hm⟩
theorem rv_i64 {H : Type} {enc : TypeId × Value → H} {w : World} {base b0 : Nat} {r : Reach} {sp : Nat → Bool} {held : Bool} {v : Value} {d : DataW H} {p : List MemPlace}
    (hv : Value.okWide Tryd.prog w r b0 3 v) (h : DataW.Trod enc Tryd.prog w base sp held 3 v d p) : ∃ n, v = .int .i64 n := by
  obtain ⟨k, rfl⟩ := okWide_int Tryd.underlying3 hv
  exact ⟨_, rfl⟩
theorem rv_addrs {H : Type} {enc : TypeId × Value → H} {w : World} {base b0 : Nat} {r : Reach} {sp : Nat → Bool} {held : Bool} {v : Value} {d : DataW H} {p : List MemPlace}
    (hv : Value.okWide Tryd.prog w r b0 22 v) (h : DataW.Trod enc Tryd.prog w base sp held 22 v d p) : ∃ (A : Option Addr) (sv : List Int) (c : Nat), v = .slice A sv.length c ∧ Reads w w.heap.size 1 A sv.length (sv.map (Value.int .u32)) := by
  obtain ⟨A0, l0, c0, rfl⟩ := okWide_slice Tryd.underlying22 hv
  obtain ⟨fuel, hf⟩ := h
  rcases open_ints Tryd.underlying22 Tryd.underlying33 (by kernel_rfl) hf with ⟨h1, _⟩ | ⟨a, len, cap, zs, h1, _, hl, hm, hz, hx, hcell, hwz⟩
  · simp only [Value.cells, List.cons.injEq, and_true] at h1
    exact ⟨none, [], 0, by simpa using h1, Reads.none_⟩
  · have hlz : len ≤ zs.length := by rw [hz]; split <;> omega
    simp only [Value.cells, List.cons.injEq, and_true] at h1
    have h3 : (zs.take len).length = len := by rw [List.length_take]; omega
    refine ⟨some a, zs.take len, cap, by rw [h3]; simpa using h1, ⟨by simp, fun hn => ⟨a, rfl, ?_, fun j u hu => ?_⟩⟩⟩
    · have hb := block_lt_of_cell (hcell 0 (by omega))
      rwa [block_of_add] at hb
    · have hj : j < (zs.take len).length := by
        have := (List.getElem?_eq_some_iff.1 hu).1
        simpa using this
      rw [hcell j (by omega)]
      rw [← hu, List.getElem?_map, List.getElem?_take_of_lt (by omega)]
      rw [List.getElem?_eq_getElem (show j < zs.length by omega)]
      simp [List.getD, List.getElem?_eq_getElem (show j < zs.length by omega)]
theorem givesUp_lifted (os : Os) (started : os.Started) (H : Type) (enc : TypeId × Value → H) :
    ReturnsInHanded {} Tryd.checked os 3 .any (fun w args => (Rows.resolveGivesUpSpec.pre enc Tryd.checked.prog Tryd.f3 [] false w args ∧ laidMetH Tryd.prog Rows.resolveGivesUpRow.laid w) ∧ sizedMet enc Tryd.checked.prog Tryd.f3 (OpenSpec.ofChange Rows.resolveGivesUpSpec) false w args)
      (Rows.resolveGivesUpSpec.post enc Tryd.checked.prog Tryd.f3 false true false false) :=
  law_lift_laid started (X := fun w _ => laidMetH Tryd.prog Rows.resolveGivesUpRow.laid w) (fun _ _ _ hh h => h.of_heap hh) (by kernel_rfl) Tryd.func3
    (ChangeSpec.witness_shaped (enc := enc) (C := Tryd.checked) (os := os) (X := fun w _ => laidMetH Tryd.prog Rows.resolveGivesUpRow.laid w) false (World.laidAll Tryd.prog os Rows.resolveGivesUpRow.laid) #[.slice none 0 0, .int .i64 0] 8 (World.laidAll_os _ _ _)
      (World.shaped_of_ZipB (by kernel_rfl) (by kernel_rfl)) (by kernel_rfl) (by kernel_rfl) (by kernel_rfl)
      (by rw [MakeChecks.laidMetH_plain _ _ _ (by kernel_rfl)]; exact laidMet_laidAll _ (by kernel_rfl) (by kernel_rfl)))
    rfl rfl Tryd.underlying4 (by kernel_rfl) (fun ds h => match ds, h with | [_, _], _ => rfl)
    (fun W base args ds p hval hA hsz hsh _ => by
      rw [Tryd.params3] at hA hval
      have hsz' := hsz
      rw [Tryd.params3] at hsz'
      obtain ⟨v0, v1, d0, d1, p0, p1, rfl, rfl, rfl, h0, h1⟩ := trodAll_two hA
      obtain ⟨A, sv, c, rfl, hrd⟩ := rv_addrs (hval 0 22 v0 rfl rfl) h0
      obtain ⟨fr, rfl⟩ := rv_i64 (hval 1 3 v1 rfl rfl) h1
      exact givesUp_walk W A sv c fr hrd (maxL_of hsh).1 (maxL_of hsh).2)
theorem givesUp_holds : Rows.ResolveGivesUpSaid :=
  OpenClaim.holds_of_wide 3 Tryd.f3 rfl rfl rfl rfl rfl rfl rfl ⟨rfl, rfl, rfl, rfl, rfl⟩ rfl rfl rfl rfl rfl (by kernel_rfl) Tryd.func3 (by kernel_rfl)
    (of_decide_eq_true (by kernel_rfl)) (by unfold Func.isWrapper; first | (rw [if_pos (by decide +kernel)]; kernel_rfl) | (rw [if_neg (by decide +kernel)]; exact ⟨rfl, rfl⟩))
    (fun os started H enc _ => givesUp_lifted os started H enc)
theorem givesUp_card : Rows.ResolveGivesUpCardSaid :=
  Claim7.holds_tied_plain_at .later [] [.data, .pinned] true (true, "8ecd3e9536971bc301382af97ce5cfa94ee62867d12c336a122fe5d0484e9763") false
    givesUp_holds (fun _ h => by cases h) (by kernel_rfl) (fun _ h => by cases h) resolveGivesUp_row_tie rfl ⟨rfl, rfl⟩ (by kernel_rfl) rfl
    (fun f fn hf hfn => by
      obtain rfl : f = 3 := Option.some.inj ((show Tryd.prog.funcNamed "wharf/wharflaw22.ResolveGivesUp" = some 3 by kernel_rfl).symm.trans hf) |>.symm
      obtain rfl : fn = Tryd.f3 := (Option.some.inj (Tryd.func3.symm.trans hfn)).symm
      exact ⟨by kernel_rfl, fun j t ht => by
        rw [Tryd.params3] at ht
        have hm : t ∈ [22, 3] := by simpa using Array.mem_of_getElem? ht
        have hall : ([22, 3].all fun u => !Tryd.prog.wantsStandIn u) = true := by kernel_rfl
        exact (show Tryd.prog.wantsStandIn t = false by simpa using List.all_eq_true.1 hall t hm)⟩)
    (by kernel_rfl)
end Go.Proofs.YtpfkmmmlocmakaaDoor
