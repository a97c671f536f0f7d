/-
  ResolveOfNothing, the row and its tied card: for every text, datagram and tick the law 'a nil Resolver finds nothing' returns true,
  where the two listed tables of the library hold what the program's text lays (the tie is given).
-/
import Derived.Test.YtpfkmmmlocmakaaDoorRvO
import Derived.Test.YtpfkmmmlocmakaaDoorLawD
import Derived.Test.YtpfkmmmlocmakaaDoorOpen
import Derived.Test.YtpfkmmmlocmakaaDoorTie
import Derived.Test.YtpfkmmmlocmakaaDoorCards
import Derived.SevenTiedAt
set_option linter.unusedVariables false
namespace Go.Proofs.YtpfkmmmlocmakaaDoor
open Go.ChangeShapes Go.WideShapes Go.ChangeAt Go.RowKit
open Go.ChangeMaps (open_string shut_string)
set_option maxRecDepth 100000

theorem maxL_of {w : World} (h : w.ShapedOpen Tryd.prog) : MaxL w ∧ 0 < w.heap.size := by
  obtain ⟨m, hm⟩ := Tryd.laysM146.s1_3 w h
  exact ⟨⟨m, hm⟩, block_lt_of_cell hm⟩
theorem rv_i64 {H : Type} {enc : TypeId × Value → H} {w : World} {base b0 : Nat} {r : Reach} {sp : Nat → Bool} {held : Bool} {v : Value} {d : DataW H} {p : List MemPlace}
    (hv : Value.okWide Tryd.prog w r b0 3 v) (h : DataW.Trod enc Tryd.prog w base sp held 3 v d p) : ∃ n, v = .int .i64 n := by
  obtain ⟨k, rfl⟩ := okWide_int Tryd.underlying3 hv
  exact ⟨_, rfl⟩
theorem rv_dgram {H : Type} {enc : TypeId × Value → H} {w : World} {base b0 : Nat} {r : Reach} {sp : Nat → Bool} {held : Bool} {v : Value} {d : DataW H} {p : List MemPlace}
    (hv : Value.okWide Tryd.prog w r b0 36 v) (h : DataW.Trod enc Tryd.prog w base sp held 36 v d p) : ∃ fr frp to_ top A n c, v = .agg #[.int .u32 fr, .int .i64 frp, .int .u32 to_, .int .i64 top, .slice A n c] := by
  obtain ⟨cs, rfl, hsz⟩ := okWide_struct Tryd.underlying36 hv
  obtain ⟨fuel, hf⟩ := h
  obtain ⟨xs, n, _, _, hcl, hxl, hg⟩ := DataW.trod_struct Tryd.underlying36 hf
  have c41 : Tryd.prog.cellsOf 36 = 5 := by kernel_rfl
  have c23 : Tryd.prog.cellsOf 33 = 1 := by kernel_rfl
  have c3 : Tryd.prog.cellsOf 3 = 1 := by kernel_rfl
  have c39 : Tryd.prog.cellsOf 34 = 1 := by kernel_rfl
  have g0 := hg 0 _ rfl
  have g1 := hg 1 _ rfl
  have g2 := hg 2 _ rfl
  have g3 := hg 3 _ rfl
  have g4 := hg 4 _ rfl
  simp only [Value.cells] at g0 g1 g2 g3 g4
  obtain ⟨l⟩ := cs
  rw [c41] at hsz
  match l, hsz with
  | [x0, x1, x2, x3, x4], _ =>
    rw [List.getElem?_eq_getElem (show 0 < xs.length by rw [hxl]; decide)] at g0
    rw [List.getElem?_eq_getElem (show 1 < xs.length by rw [hxl]; decide)] at g1
    rw [List.getElem?_eq_getElem (show 2 < xs.length by rw [hxl]; decide)] at g2
    rw [List.getElem?_eq_getElem (show 3 < xs.length by rw [hxl]; decide)] at g3
    rw [List.getElem?_eq_getElem (show 4 < xs.length by rw [hxl]; decide)] at g4
    obtain ⟨a0, h0, _, _⟩ := DataW.trod_int Tryd.underlying33 g0
    obtain ⟨a1, h1, _, _⟩ := DataW.trod_int Tryd.underlying3 g1
    obtain ⟨a2, h2, _, _⟩ := DataW.trod_int Tryd.underlying33 g2
    obtain ⟨a3, h3, _, _⟩ := DataW.trod_int Tryd.underlying3 g3
    obtain ⟨A, dl, c, h8, _, _⟩ := trod_bytes g4
    simp [c23] at h0 h2
    simp [c3] at h1 h3
    simp [c39] at h8
    subst h0 h1 h2 h3 h8
    exact ⟨a0, a1, a2, a3, A, _, c, rfl⟩
theorem ofNothing_lifted (os : Os) (started : os.Started) (H : Type) (enc : TypeId × Value → H) :
    ReturnsInHanded {} Tryd.checked os 8 .any (fun w args => (Rows.resolveOfNothingSpec.pre enc Tryd.checked.prog Tryd.f8 [] false w args ∧ laidMetH Tryd.prog Rows.resolveOfNothingRow.laid w) ∧ sizedMet enc Tryd.checked.prog Tryd.f8 (OpenSpec.ofChange Rows.resolveOfNothingSpec) false w args)
      (Rows.resolveOfNothingSpec.post enc Tryd.checked.prog Tryd.f8 false true false false) :=
  law_lift_laid started (X := fun w _ => laidMetH Tryd.prog Rows.resolveOfNothingRow.laid w) (fun _ _ _ hh h => h.of_heap hh) (by kernel_rfl) Tryd.func8
    (ChangeSpec.witness_shaped (enc := enc) (C := Tryd.checked) (os := os) (X := fun w _ => laidMetH Tryd.prog Rows.resolveOfNothingRow.laid w) false (World.laidAll Tryd.prog os Rows.resolveOfNothingRow.laid) #[.string ⟨#[]⟩, .agg #[.int .u32 0, .int .i64 0, .int .u32 0, .int .i64 0, .slice none 0 0], .int .i64 0] 8 (World.laidAll_os _ _ _)
      (World.shaped_of_ZipB (by kernel_rfl) (by kernel_rfl)) (by kernel_rfl) (by kernel_rfl) (by kernel_rfl)
      (by rw [MakeChecks.laidMetH_plain _ _ _ (by kernel_rfl)]; exact laidMet_laidAll _ (by kernel_rfl) (by kernel_rfl)))
    rfl rfl Tryd.underlying4 (by kernel_rfl) (fun ds h => match ds, h with | [_, _, _], _ => rfl)
    (fun W base args ds p hval hA hsz hsh _ => by
      rw [Tryd.params8] at hA hval
      have hsz' := hsz
      rw [Tryd.params8] at hsz'
      obtain ⟨v0, v1, v2, d0, d1, d2, p0, p1, p2, rfl, rfl, rfl, h0, h1, h2⟩ := trodAll_three hA
      obtain ⟨s, rfl, rfl, _, hs⟩ := open_string Tryd.underlying9 (hval 0 9 v0 rfl rfl) h0
      obtain ⟨fr, frp, to_, top, A, n, c, rfl⟩ := rv_dgram (hval 1 36 v1 rfl rfl) h1
      obtain ⟨now, rfl⟩ := rv_i64 (hval 2 3 v2 rfl rfl) h2
      exact ofNothing_walk W s fr frp to_ top now A n c (maxL_of hsh).1 (maxL_of hsh).2)
theorem ofNothing_holds : Rows.ResolveOfNothingSaid :=
  OpenClaim.holds_of_wide 8 Tryd.f8 rfl rfl rfl rfl rfl rfl rfl ⟨rfl, rfl, rfl, rfl, rfl⟩ rfl rfl rfl rfl rfl (by kernel_rfl) Tryd.func8 (by kernel_rfl)
    (of_decide_eq_true (by kernel_rfl)) (by unfold Func.isWrapper; first | (rw [if_pos (by decide +kernel)]; kernel_rfl) | (rw [if_neg (by decide +kernel)]; exact ⟨rfl, rfl⟩))
    (fun os started H enc _ => ofNothing_lifted os started H enc)
theorem ofNothing_card : Rows.ResolveOfNothingCardSaid :=
  Claim7.holds_tied_plain_at .later [] [.data, .pinned] true (true, "8ecd3e9536971bc301382af97ce5cfa94ee62867d12c336a122fe5d0484e9763") false
    ofNothing_holds (fun _ h => by cases h) (by kernel_rfl) (fun _ h => by cases h) resolveOfNothing_row_tie rfl ⟨rfl, rfl⟩ (by kernel_rfl) rfl
    (fun f fn hf hfn => by
      obtain rfl : f = 8 := Option.some.inj ((show Tryd.prog.funcNamed "wharf/wharflaw22.ResolveOfNothing" = some 8 by kernel_rfl).symm.trans hf) |>.symm
      obtain rfl : fn = Tryd.f8 := (Option.some.inj (Tryd.func8.symm.trans hfn)).symm
      exact ⟨by kernel_rfl, fun j t ht => by
        rw [Tryd.params8] at ht
        have hm : t ∈ [9, 36, 3] := by simpa using Array.mem_of_getElem? ht
        have hall : ([9, 36, 3].all fun u => !Tryd.prog.wantsStandIn u) = true := by kernel_rfl
        exact (show Tryd.prog.wantsStandIn t = false by simpa using List.all_eq_true.1 hall t hm)⟩)
    (by kernel_rfl)
end Go.Proofs.YtpfkmmmlocmakaaDoor
