/-
  From a walk of one goroutine to the row of a tied law whose calls may start goroutines ('leaving', 'calm').
-/
import Derived.Test.YtpfohcmificnmaaDoorLawD
import Derived.Conc.HoldsTime
import Derived.LoneHanded
import Derived.SevenTiedAt
import Derived.Clock
set_option linter.unusedVariables false
namespace Go.Proofs.YtpfohcmificnmaaDoor
open Go.ChangeShapes Go.WideShapes Go.ChangeAt Go.RowKit Go.Conc

-- a good run, from a contract over one goroutine
theorem good_of_calls {P : Program} {f : FuncId} {args : Array Value} {W : World} {Post : Value → World → Prop} (noInit : P.inits.idxOf? f = none)
    (h : Calls P f args W fun | .returned v, w' => Post v w' | _, _ => False) :
    ∃ M last o w' t', runNT P (M + 1) (solo (G (Frame.enter P f args .normal) []) W) #[] = (.ended o w', t') ∧ runN P M (solo (G (Frame.enter P f args .normal) []) W) = .next last ∧
      step P last = .ended o w' ∧ Conc.Good P Post last o w' t' := by
  obtain ⟨n, v, w', fr, hn, hend, hp⟩ := h.done_lone noInit
  have e : solo (G (Frame.enter P f args .normal) []) W = lone (Frame.enter P f args .normal) [] W := rfl
  rw [e]
  refine ⟨n, lone fr [] w', .done v, w', (runNT P (n + 1) (lone (Frame.enter P f args .normal) [] W) #[]).2, ?_, hn, step_of_runs hn hend, v, rfl, hp, fun said => (no_race_of_lone (said := said) P n _ _ hn (by simp [lone]) rfl).2, handedOver_of_lone hn, ?_, ?_⟩
  · exact Prod.ext (by rw [runNT_fst, hend]) rfl
  · exact ⟨fun g hg => by simp [lone] at hg, by kernel_rfl⟩
  · intro i g hi hne
    match i, hne with
    | 0, h => exact absurd rfl h
    | i + 1, _ => simp [lone] at hi
set_option maxRecDepth 100000 in
theorem law_lift_goes {os : Os} (started : os.Started) {H : Type} {enc : TypeId × Value → H} {f : FuncId} {fn : Func} {s : ChangeSpec} {T : TypeId} {F : Stop.Interp} {X : World → Array Value → Prop}
    (hX : ∀ (w w' : World) (args : Array Value), w.heap = w'.heap → X w args → X w' args)
    (own : ownKnob Tryd.checked.prog.godebug = none)
    (noInit : Tryd.checked.prog.inits.idxOf? f = none) (hfn : Tryd.checked.prog.funcs[f]? = some fn)
    (witness : ∃ (w : World) (tape : Tape) (i : Input), w.os = os ∧ (w.forCall tape i).Shaped Tryd.checked.prog ∧ i.vars = [] ∧ Input.okWide Tryd.checked.prog (w.forCall tape i) .any w.heap.size f i ∧
      ((s.pre enc Tryd.checked.prog fn [] false (w.forCall tape i).memory i.args ∧ X (w.forCall tape i).memory i.args) ∧ sizedMet enc Tryd.checked.prog fn (OpenSpec.ofChange s) false (w.forCall tape i).memory i.args) ∧ Assume.holds { calm := true } Tryd.checked.prog (lone (Frame.enter Tryd.checked.prog f i.args .normal) [] (w.forCall tape i)))
    (hv : s.vars = []) (hres : fn.resultTypes = #[T]) (hT : Tryd.prog.underlying T = some .bool) (hp : fn.params.toList.all (fun t => Tryd.prog.readableRec t && decide (t < Tryd.prog.types.size)) = true)
    (hspec : ∀ ds : List (DataW H), ds.length = fn.params.toList.length → s.fn H ds = { results := [.lit (.bool true)], args := ds })
    (walk : ∀ (W : World) (base : Nat) (args : Array Value) (ds : List (DataW H)) (p : List MemPlace), (∀ (j : Nat) t v, fn.params[j]? = some t → args[j]? = some v → Value.okWide Tryd.prog W .any base t v) →
      DataW.TrodAll enc Tryd.prog W 0 (fun _ => true) true fn.params.toList args.toList ds p → (DataW.weightsEach Tryd.prog fn.params.toList ds).all (· ≤ reachBytes) = true → W.ShapedOpen Tryd.prog → X W args →
      Calls Tryd.prog f args W fun e W' => e = .returned (.bool true) ∧ Below W.heap.size W W') :
    ReturnsInLeavingWide { calm := true } Tryd.checked os f .any (fun w args => (s.pre enc Tryd.checked.prog fn [] false w args ∧ X w args) ∧ sizedMet enc Tryd.checked.prog fn (OpenSpec.ofChange s) false w args) ((OpenSpec.ofChange s).postWith enc Tryd.checked.prog fn F (outsideKept [.timePasses]) false true false) := by
  refine returnsInLeavingWide_of_good own started witness ?_
  intro w tape i _ hsh _ hok hpre hholds
  obtain ⟨_, _, _, fn', hfn', _, _, _, _, hval⟩ := hok
  have e : fn' = fn := Option.some.inj (hfn'.symm.trans hfn)
  subst e
  obtain ⟨⟨⟨ds, gs, before, hw, hc⟩, hx⟩, hz⟩ := hpre
  have hreach := hz.weights hw
  have hW := DataW.Whole.of_heap (w' := w.forCall tape i) (by rfl) hw
  have hx' := hX _ (w.forCall tape i) _ (by rfl) hx
  have hW' := hW
  obtain ⟨p, q, hA, hV, rfl, hfz, hnd⟩ := hW
  rw [hv] at hV
  obtain ⟨rfl, rfl⟩ := trodVars_none hV
  have hsz : (DataW.weightsEach Tryd.prog fn'.params.toList ds).all (· ≤ reachBytes) = true := by
    have h0 : (OpenSpec.ofChange s).bare.plain.varTypes Tryd.checked.prog = [] := by simp [DataSpec.varTypes, ChangeSpec.plain, OpenSpec.bare, OpenSpec.ofChange, hv]
    rw [h0, List.append_nil, List.append_nil] at hreach
    exact hreach
  refine good_of_calls noInit ?_
  refine (walk (w.forCall tape i) w.heap.size i.args ds p hval hA hsz hsh hx').mono fun e W' ⟨he, hb⟩ => ?_
  subst he
  have hlt : ∀ x ∈ p, x.block < (w.forCall tape i).heap.size := fun x hx => hW'.lt x (by simpa using hx)
  have e1 := hspec (ds ++ []) (by rw [List.append_nil]; exact trodAll_len hA)
  have hps : ∀ t ∈ fn'.params.toList, Tryd.prog.readableRec t = true ∧ t < Tryd.prog.types.size := fun t ht => by
    have h := List.all_eq_true.1 hp t ht
    simp only [Bool.and_eq_true, decide_eq_true_eq] at h
    exact h
  have hos : ({ W' with os := (w.forCall tape i).os } : World) = W' := by rw [← hb.os]
  refine postWith_blind (postWith_of_post (W' := W') ?_ ?_)
  · rw [hos]
    refine ⟨_, _, _, [], p, [], hW', ?_, ?_, ?_, hb.frame _, fun h => by cases h⟩
    · rw [e1, hres]; exact trodAll_mk1 (shut_bool hT _)
    · rw [e1, List.append_nil]; exact trodAll_below hb hps hlt hA
    · rw [e1, hv]; rfl
  · rw [hb.os]; exact ⟨0, rfl⟩
-- a tied card whose calls may start goroutines
theorem card_goes {p : Pinned} {s : OpenSpec} {c : OpenClaim} (kinds : List LaidKind) (tests : Bool) (har : Bool × String) (lk : Bool)
    (hc : c.holds p s) (hw : c.wfByText s = true) (htie : c.laidByTextAt .later p kinds tests)
    (hst : c.start = .entering) (hnb : c.noBlocks = false ∧ c.again = false) (hm : p.checked.prog.mainIs = some (har.1, har.2.toList)) (hn : (!har.1 && har.2.isEmpty && !lk) = false)
    (hl : ∀ f fn, p.checked.prog.funcNamed c.func = some f → p.checked.prog.funcs[f]? = some fn → lk = p.checked.prog.looks [] ∧ ∀ (j : Nat) t, fn.params[j]? = some t → p.checked.prog.wantsStandIn t = false)
    (hg : true = c.goesBy p.checked.prog) :
    Claim7.holds p (.plain s) { stood := { row := c, standIns := [], harness := har, looks := lk }, kinds := [], alts := [], goes := true, laidByText := true, laidKinds := kinds, laidTests := tests, laidLooks := .later } := by
  have h6 : Claim7.isSixth { stood := { row := c, standIns := [], harness := har, looks := lk }, kinds := [] } = false := by simpa [Claim7.isSixth] using hn
  have h1 := Claim7.tied_new_at .later kinds tests (Claim7.new_of_sixth hc har lk hst hnb hm h6 hl) hw
  unfold Claim7.holds
  refine ⟨h1, ?_, htie, ?_, hg⟩
  · intro D hD
    cases hD
  · intro h
    cases h
end Go.Proofs.YtpfohcmificnmaaDoor
