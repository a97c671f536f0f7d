/-
  ResolveTells, the row and its tied card: for every name, addresses, draw and fault the law 'an answer to the question that was asked is told, and one with another id, another port, another server, or another name is not' returns true,
  where the two listed tables of the library hold what the program's text lays (the tie is given).
-/
import Derived.Test.YtpfkmmmlocmakaaDoorRk4
import Derived.Test.YtpfkmmmlocmakaaDoorLawD
import Derived.Test.YtpfkmmmlocmakaaDoorOpen
import Derived.Test.YtpfkmmmlocmakaaDoorTie
import Derived.Test.YtpfkmmmlocmakaaDoorCards
import Derived.SevenTiedAt
set_option linter.unusedVariables false
namespace Go.Proofs.YtpfkmmmlocmakaaDoor
open Go.ChangeShapes Go.WideShapes Go.ChangeAt Go.RowKit
open Go.ChangeMaps (open_string shut_string)
set_option maxRecDepth 100000

theorem maxL_of {w : World} (h : w.ShapedOpen Tryd.prog) : MaxL w ∧ 0 < w.heap.size := by
  obtain ⟨m, hm⟩ := Tryd.laysM146.s1_3 w h
  exact ⟨⟨m, hm⟩, block_lt_of_cell hm⟩
theorem rv_i64 {H : Type} {enc : TypeId × Value → H} {w : World} {base b0 : Nat} {r : Reach} {sp : Nat → Bool} {held : Bool} {v : Value} {d : DataW H} {p : List MemPlace}
    (hv : Value.okWide Tryd.prog w r b0 3 v) (h : DataW.Trod enc Tryd.prog w base sp held 3 v d p) : ∃ n, v = .int .i64 n := by
  obtain ⟨k, rfl⟩ := okWide_int Tryd.underlying3 hv
  exact ⟨_, rfl⟩
theorem rv_addrs {H : Type} {enc : TypeId × Value → H} {w : World} {base b0 : Nat} {r : Reach} {sp : Nat → Bool} {held : Bool} {v : Value} {d : DataW H} {p : List MemPlace}
    (hv : Value.okWide Tryd.prog w r b0 22 v) (h : DataW.Trod enc Tryd.prog w base sp held 22 v d p) : ∃ (A : Option Addr) (sv : List Int) (c : Nat), v = .slice A sv.length c ∧ Reads w w.heap.size 1 A sv.length (sv.map (Value.int .u32)) ∧ ∀ a ∈ sv, 0 ≤ a ∧ a < 4294967296 := by
  obtain ⟨A0, l0, c0, rfl⟩ := okWide_slice Tryd.underlying22 hv
  obtain ⟨fuel, hf⟩ := h
  rcases open_ints Tryd.underlying22 Tryd.underlying33 (by kernel_rfl) hf with ⟨h1, _⟩ | ⟨a, len, cap, zs, h1, _, hl, hm, hz, hx, hcell, hwz⟩
  · simp only [Value.cells, List.cons.injEq, and_true] at h1
    exact ⟨none, [], 0, by simpa using h1, Reads.none_, by simp⟩
  · have hlz : len ≤ zs.length := by rw [hz]; split <;> omega
    simp only [Value.cells, List.cons.injEq, and_true] at h1
    have h3 : (zs.take len).length = len := by rw [List.length_take]; omega
    refine ⟨some a, zs.take len, cap, by rw [h3]; simpa using h1, ⟨by simp, fun hn => ⟨a, rfl, ?_, fun j u hu => ?_⟩⟩, fun n hn => ?_⟩
    · have hb := block_lt_of_cell (hcell 0 (by omega))
      rwa [block_of_add] at hb
    · have hj : j < (zs.take len).length := by
        have := (List.getElem?_eq_some_iff.1 hu).1
        simpa using this
      rw [hcell j (by omega)]
      rw [← hu, List.getElem?_map, List.getElem?_take_of_lt (by omega)]
      rw [List.getElem?_eq_getElem (show j < zs.length by omega)]
      simp [List.getD, List.getElem?_eq_getElem (show j < zs.length by omega)]
    · have h4 := hwz n (List.mem_of_mem_take hn)
      simp [Lit.wf, IntKind.min, IntKind.max, IntKind.signed, IntKind.bits] at h4
      omega
theorem trodAll_four {H : Type} {enc : TypeId × Value → H} {P : Program} {w : World} {base : Nat} {spare : Nat → Bool} {held : Bool} {t0 t1 t2 t3 : TypeId} {args : Array Value} {ds : List (DataW H)} {ps : List MemPlace}
    (h : DataW.TrodAll enc P w base spare held [t0, t1, t2, t3] args.toList ds ps) :
    ∃ v0 v1 v2 v3 d0 d1 d2 d3 p0 p1 p2 p3, args = #[v0, v1, v2, v3] ∧ ds = [d0, d1, d2, d3] ∧ DataW.Trod enc P w base spare held t0 v0 d0 p0 ∧ DataW.Trod enc P w base spare held t1 v1 d1 p1 ∧ DataW.Trod enc P w base spare held t2 v2 d2 p2 ∧ DataW.Trod enc P w base spare held t3 v3 d3 p3 := by
  obtain ⟨v0, vs0, d0, e0, p0, q0, hargs, rfl, rfl, h0, r0⟩ := trodAll_cons h
  obtain ⟨v1, vs1, d1, e1, p1, q1, rfl, rfl, rfl, h1, r1⟩ := trodAll_cons r0
  obtain ⟨v2, vs2, d2, e2, p2, q2, rfl, rfl, rfl, h2, r2⟩ := trodAll_cons r1
  obtain ⟨v3, vs3, d3, e3, p3, q3, rfl, rfl, rfl, h3, r3⟩ := trodAll_cons r2
  obtain ⟨rfl, rfl, rfl⟩ := trodAll_nil r3
  exact ⟨v0, v1, v2, v3, d0, d1, d2, d3, p0, p1, p2, p3, by cases args; simp_all, rfl, h0, h1, h2, h3⟩
theorem tells_lifted (os : Os) (started : os.Started) (H : Type) (enc : TypeId × Value → H) :
    ReturnsInHanded {} Tryd.checked os 4 .any (fun w args => (Rows.resolveTellsSpec.pre enc Tryd.checked.prog Tryd.f4 [] false w args ∧ laidMetH Tryd.prog Rows.resolveTellsRow.laid w) ∧ sizedMet enc Tryd.checked.prog Tryd.f4 (OpenSpec.ofChange Rows.resolveTellsSpec) false w args)
      (Rows.resolveTellsSpec.post enc Tryd.checked.prog Tryd.f4 false true false false) :=
  law_lift_laid started (X := fun w _ => laidMetH Tryd.prog Rows.resolveTellsRow.laid w) (fun _ _ _ hh h => h.of_heap hh) (by kernel_rfl) Tryd.func4
    (ChangeSpec.witness_shaped (enc := enc) (C := Tryd.checked) (os := os) (X := fun w _ => laidMetH Tryd.prog Rows.resolveTellsRow.laid w) false (World.laidAll Tryd.prog os Rows.resolveTellsRow.laid) #[.string ⟨#[]⟩, .slice none 0 0, .int .i64 0, .int .i64 0] 8 (World.laidAll_os _ _ _)
      (World.shaped_of_ZipB (by kernel_rfl) (by kernel_rfl)) (by kernel_rfl) (by kernel_rfl) (by kernel_rfl)
      (by rw [MakeChecks.laidMetH_plain _ _ _ (by kernel_rfl)]; exact laidMet_laidAll _ (by kernel_rfl) (by kernel_rfl)))
    rfl rfl Tryd.underlying4 (by kernel_rfl) (fun ds h => match ds, h with | [_, _, _, _], _ => rfl)
    (fun W base args ds p hval hA hsz hsh _ => by
      rw [Tryd.params4] at hA hval
      have hsz' := hsz
      rw [Tryd.params4] at hsz'
      obtain ⟨v0, v1, v2, v3, d0, d1, d2, d3, p0, p1, p2, p3, rfl, rfl, h0, h1, h2, h3⟩ := trodAll_four hA
      obtain ⟨s, rfl, rfl, _, _⟩ := open_string Tryd.underlying9 (hval 0 9 v0 rfl rfl) h0
      obtain ⟨A, sv, c, rfl, hrd, hrg⟩ := rv_addrs (hval 1 22 v1 rfl rfl) h1
      obtain ⟨dr, rfl⟩ := rv_i64 (hval 2 3 v2 rfl rfl) h2
      obtain ⟨wg, rfl⟩ := rv_i64 (hval 3 3 v3 rfl rfl) h3
      exact tells_walk W s A sv c dr wg hrd hrg (maxL_of hsh).1 (maxL_of hsh).2)
theorem tells_holds : Rows.ResolveTellsSaid :=
  OpenClaim.holds_of_wide 4 Tryd.f4 rfl rfl rfl rfl rfl rfl rfl ⟨rfl, rfl, rfl, rfl, rfl⟩ rfl rfl rfl rfl rfl (by kernel_rfl) Tryd.func4 (by kernel_rfl)
    (of_decide_eq_true (by kernel_rfl)) (by unfold Func.isWrapper; first | (rw [if_pos (by decide +kernel)]; kernel_rfl) | (rw [if_neg (by decide +kernel)]; exact ⟨rfl, rfl⟩))
    (fun os started H enc _ => tells_lifted os started H enc)
theorem tells_card : Rows.ResolveTellsCardSaid :=
  Claim7.holds_tied_plain_at .later [] [.data, .pinned] true (true, "8ecd3e9536971bc301382af97ce5cfa94ee62867d12c336a122fe5d0484e9763") false
    tells_holds (fun _ h => by cases h) (by kernel_rfl) (fun _ h => by cases h) resolveTells_row_tie rfl ⟨rfl, rfl⟩ (by kernel_rfl) rfl
    (fun f fn hf hfn => by
      obtain rfl : f = 4 := Option.some.inj ((show Tryd.prog.funcNamed "wharf/wharflaw22.ResolveTells" = some 4 by kernel_rfl).symm.trans hf) |>.symm
      obtain rfl : fn = Tryd.f4 := (Option.some.inj (Tryd.func4.symm.trans hfn)).symm
      exact ⟨by kernel_rfl, fun j t ht => by
        rw [Tryd.params4] at ht
        have hm : t ∈ [9, 22, 3, 3] := by simpa using Array.mem_of_getElem? ht
        have hall : ([9, 22, 3, 3].all fun u => !Tryd.prog.wantsStandIn u) = true := by kernel_rfl
        exact (show Tryd.prog.wantsStandIn t = false by simpa using List.all_eq_true.1 hall t hm)⟩)
    (by kernel_rfl)
end Go.Proofs.YtpfkmmmlocmakaaDoor
