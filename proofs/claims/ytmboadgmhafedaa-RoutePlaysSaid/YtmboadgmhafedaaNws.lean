/-
  A region that draws its order and whose operations MAKE memory (appends, literals, one store): one walk of its text's own order.
  Each operation is told once for all worlds of a class C; what it lays down is a fact (of its value and of the world) that every later operation keeps; the facts are handed over at the end.
-/
import Derived.Test.YtmboadgmhafedaaLex
set_option linter.unusedVariables false
namespace Go.Proofs.Ytmboadgmhafedaa
open Go.RowKit

section
variable {P : Program} {ops : Array Oper} {md : Region.Mode} {C Z : World → Prop} {R Rm : World → World → Prop} {m : Nat}

-- operations that enter no Go function
def inert (o : Oper) : Bool :=
  match o.op with
  | .move _ | .assign _ | .alloc _ | .box _ _ | .build _ _ | .buildSlice _ _ _ | .load _ _ | .nilCheck _ | .store _ _ _ | .binOp .. | .unOp .. | .convert .. | .makeSlice .. | .slice .. | .fieldAddr .. | .field .. | .indexAddr .. | .index .. | .extract .. => true
  | _ => false
-- operations that may be walked as news
def newsy (o : Oper) : Bool :=
  match o.op with
  | .alloc _ | .box _ _ | .buildSlice _ _ _ | .store _ _ _ | .makeSlice .. | .call _ => true
  | _ => false
theorem run_val {s : Sem Value} {w w' : World} {n : Next} (h : (do pure (Next.value (← s)) : Sem Next).run P w = .ok n w') : ∃ v, n = .value v := by
  rw [Sem.run_bind] at h
  cases hs : s.run P w with
  | ok v w1 => rw [hs] at h; simp only [Result.andThen_ok, Sem.run_pure] at h; injection h with h1 h2; exact ⟨v, h1.symm⟩
  | halt x w1 => rw [hs] at h; simp [Result.andThen] at h
theorem run_unit {s : Sem Unit} {w w' : World} {n : Next} (h : (do s; pure Next.skip : Sem Next).run P w = .ok n w') : n = .skip := by
  rw [Sem.run_bind] at h
  cases hs : s.run P w with
  | ok v w1 => rw [hs] at h; simp only [Result.andThen_ok, Sem.run_pure] at h; injection h with h1 h2; exact h1.symm
  | halt x w1 => rw [hs] at h; simp [Result.andThen] at h
theorem andThen_ok_ {α β : Type} {r : Result α} {f : α → World → Result β} {n : β} {w' : World} (h : r.andThen f = .ok n w') : ∃ a w1, r = .ok a w1 ∧ f a w1 = .ok n w' := by
  cases r with
  | ok a w1 => exact ⟨a, w1, rfl, h⟩
  | halt x w1 => simp [Result.andThen] at h
theorem run_panic {w w' : World} {n : Next} (h : (runtimePanic .nilDeref : Sem Next).run P w = .ok n w') : ∃ v, n = .value v := by
  unfold runtimePanic at h
  rw [Sem.run_bind] at h
  obtain ⟨_, _, _, h⟩ := andThen_ok_ h
  simp [goPanic] at h
theorem inert_run {o : Oper} (h : inert o = true) {ρ : Operand → Value} {w w' : World} {n : Next} (hr : (execOp ρ o).run P w = .ok n w') : (∃ v, n = .value v) ∨ n = .skip := by
  obtain ⟨d, op, t, g, af, ln⟩ := o
  unfold inert at h
  unfold execOp at hr
  cases op <;> simp only at h hr <;> first
    | exact absurd h Bool.false_ne_true
    | exact .inl (run_val hr)
    | exact .inr (run_unit hr)
    | (rw [Sem.run_pure] at hr; injection hr with h1 h2; exact .inl ⟨_, h1.symm⟩)
    | (split at hr <;> first
        | (rw [Sem.run_pure] at hr; injection hr with h1 h2; exact .inl ⟨_, h1.symm⟩)
        | exact .inl (run_panic hr)
        | (split at hr <;> first
            | (rw [Sem.run_pure] at hr; injection hr with h1 h2; exact .inl ⟨_, h1.symm⟩)
            | exact .inl (run_panic hr)
            | (rw [Sem.run_bind] at hr
               obtain ⟨_, _, _, hr⟩ := andThen_ok_ hr
               rw [Sem.run_bind] at hr
               obtain ⟨_, _, _, hr⟩ := andThen_ok_ hr
               split at hr
               · rw [Sem.run_bind] at hr
                 obtain ⟨_, _, _, hr⟩ := andThen_ok_ hr
                 rw [Sem.run_pure] at hr; injection hr with h1 h2; exact .inl ⟨_, h1.symm⟩
               · rw [Sem.run_pure] at hr; injection hr with h1 h2; exact .inl ⟨_, h1.symm⟩)))

def Oper.qR (P : Program) (o : Oper) (a : Act) (C : World → Prop) (R : World → World → Prop) (v : Value) : Prop :=
  ∀ w, C w → Oper.quietUpon P (fun w'' => C w'' ∧ R w w'') w v ((execOp a.eval o).run P w)
def Oper.nR (P : Program) (i : Nat) (o : Oper) (a : Act) (C Z : World → Prop) (R Rm : World → World → Prop) (m : Nat) (Φ : Value → World → Prop) : Prop :=
  ∀ w, C w → (i = m → Z w) → ∃ v w', ((execOp a.eval o).run P w = .ok (.value v) w' ∨ ((execOp a.eval o).run P w = .ok .skip w' ∧ v = undef)) ∧ C w' ∧ (if i = m then Rm w w' else R w w') ∧ Φ v w'
def Stab (R Rm : World → World → Prop) (m i : Nat) (Φ : Value → World → Prop) : Prop := ∀ v w w', (R w w' ∨ (i ≠ m ∧ Rm w w')) → Φ v w → Φ v w'
def Pos (C : World → Prop) (Φ : Value → World → Prop) (v : Value) : Prop := ∃ w, C w ∧ Φ v w
abbrev Kt := (World → Prop) → Act → Prop
def Anti (K : Kt) : Prop := ∀ F F' a, (∀ w, F' w → F w) → K F a → K F' a

def nOp (P : Program) (ops : Array Oper) (C Z : World → Prop) (R Rm : World → World → Prop) (m i : Nat) (K : Kt) (F : World → Prop) (a : Act) : Prop :=
  match ops[i]? with
  | none => K F a
  | some o => if Region.wanted o (yielded ops a.tmps) then
      (∃ v, Oper.qR P o a C R v ∧ K F (a.put o.dst v)) ∨ (∃ Φ, Stab R Rm m i Φ ∧ Oper.nR P i o a C Z R Rm m Φ ∧ ∀ v, Pos C Φ v → K (fun w => F w ∧ Φ v w) (a.put o.dst v))
    else K F (a.put o.dst undef)
theorem nOp_anti {i : Nat} {K : Kt} (hK : Anti K) : Anti (nOp P ops C Z R Rm m i K) := by
  intro F F' a hF h
  unfold nOp at *
  cases ho : ops[i]? with
  | none => simp only [ho] at h ⊢; exact hK _ _ _ hF h
  | some o =>
    simp only [ho] at h ⊢
    split
    · rename_i hw
      simp only [hw, if_true] at h
      rcases h with ⟨v, h1, h2⟩ | ⟨Φ, h1, h2, h3⟩
      · exact .inl ⟨v, h1, hK _ _ _ hF h2⟩
      · exact .inr ⟨Φ, h1, h2, fun v hv => hK _ _ _ (fun w hw => ⟨hF w hw.1, hw.2⟩) (h3 v hv)⟩
    · rename_i hw
      simp only [hw] at h
      exact hK _ _ _ hF h
theorem nOp_mono {i : Nat} {K K' : Kt} (hK : ∀ F a, K F a → K' F a) {F : World → Prop} {a : Act} (h : nOp P ops C Z R Rm m i K F a) : nOp P ops C Z R Rm m i K' F a := by
  unfold nOp at *
  cases ho : ops[i]? with
  | none => simp only [ho] at h ⊢; exact hK _ _ h
  | some o =>
    simp only [ho] at h ⊢
    split
    · rename_i hw
      simp only [hw, if_true] at h
      rcases h with ⟨v, h1, h2⟩ | ⟨Φ, h1, h2, h3⟩
      · exact .inl ⟨v, h1, hK _ _ h2⟩
      · exact .inr ⟨Φ, h1, h2, fun v hv => hK _ _ (h3 v hv)⟩
    · rename_i hw
      simp only [hw] at h
      exact hK _ _ h
def wpAnyN (P : Program) (md : Region.Mode) (ops : Array Oper) (C Z : World → Prop) (R Rm : World → World → Prop) (m : Nat) (Q : Kt) : Nat → Array Bool → Kt
  | 0, listed, F, a => Region.ready md ops listed = [] ∧ Q F a
  | fuel + 1, listed, F, a =>
    (Region.ready md ops listed = [] → Q F a) ∧
    ∀ i ∈ Region.ready md ops listed, nOp P ops C Z R Rm m i (wpAnyN P md ops C Z R Rm m Q fuel (listed.setIfInBounds i true)) F a
theorem wpAnyN_anti {Q : Kt} (hQ : Anti Q) : ∀ (fuel : Nat) (listed : Array Bool), Anti (wpAnyN P md ops C Z R Rm m Q fuel listed)
  | 0, _, _, _, _, hF, h => ⟨h.1, hQ _ _ _ hF h.2⟩
  | fuel + 1, _, _, _, _, hF, h => ⟨fun h0 => hQ _ _ _ hF (h.1 h0), fun i hi => nOp_anti (wpAnyN_anti hQ fuel _) _ _ _ hF (h.2 i hi)⟩

theorem wpAny_of_new {Q : Kt} {Q' : Exit → Act → World → Prop} (hQ : ∀ F a w, C w → F w → Q F a → Q' .normal a w) (hZ : ∀ w w', R w w' → Z w → Z w') : ∀ (fuel : Nat) (listed : Array Bool) (F : World → Prop) (a : Act) (w : World), C w → F w →
    (∀ w w', R w w' → F w → F w') → (listed.getD m true = false → Z w ∧ ∀ w w', Rm w w' → F w → F w') → wpAnyN P md ops C Z R Rm m Q fuel listed F a → wpAny P md ops Q' fuel listed a w
  | 0, _, _, _, _, hC, hF, _, _, h => ⟨h.1, hQ _ _ _ hC hF h.2⟩
  | fuel + 1, listed, F, a, w, hC, hF, hs, hm, h => ⟨fun h0 => hQ _ _ _ hC hF (h.1 h0), fun i hi => by
      have h1 := h.2 i hi
      obtain ⟨hun, o, ho, _⟩ := mem_ready.1 hi
      have hsub : ∀ {p : Prop}, (listed.setIfInBounds i true).getD m true = false → i ≠ m := fun {p} h e => by
        subst e
        rw [Array.getD_eq_getD_getElem?, Array.getElem?_setIfInBounds] at h
        by_cases hlt : i < listed.size
        · simp [hlt] at h
        · simp [hlt] at h
      have hold : (listed.setIfInBounds i true).getD m true = false → listed.getD m true = false := fun h => by
        rwa [getD_set_ne true (hsub (p := True) h)] at h
      unfold nOp at h1
      unfold wpOp
      simp only [ho] at h1 ⊢
      split
      · rename_i hw
        simp only [hw, if_true] at h1
        left
        rcases h1 with ⟨v, hq, hK⟩ | ⟨Φ, hst, hn, hK⟩
        · have h3 := hq w hC
          unfold Oper.wp
          generalize (execOp a.eval o).run P w = r at *
          cases r with
          | ok n w' =>
            cases n <;> simp only [Oper.quietUpon] at h3 <;> simp only [Oper.upon]
            case value u =>
              obtain ⟨e1, e2⟩ := h3
              rw [e1, e2]
              exact wpAny_of_new hQ hZ fuel _ F _ w hC hF hs (fun h => hm (hold h)) hK
            case skip =>
              obtain ⟨e1, e2⟩ := h3
              rw [e1, ← e2]
              exact wpAny_of_new hQ hZ fuel _ F _ w hC hF hs (fun h => hm (hold h)) hK
            case enter f args =>
              obtain ⟨e1, hc⟩ := h3
              rw [e1]
              refine hc.mono fun e w'' ⟨he, hC'', hR''⟩ => ?_
              subst he
              exact wpAny_of_new hQ hZ fuel _ F _ w'' hC'' (hs _ _ hR'' hF) hs (fun h => ⟨hZ _ _ hR'' (hm (hold h)).1, (hm (hold h)).2⟩) hK
          | halt x w' => simp only [Oper.quietUpon] at h3
        · obtain ⟨v, w', hrun, hC', hR', hΦ⟩ := hn w hC (fun e => (hm (e ▸ hun)).1)
          have key : wpAny P md ops Q' fuel (listed.setIfInBounds i true) (a.put o.dst v) w' := by
            by_cases him : i = m
            · rw [if_pos him] at hR'
              have hF' := (hm (him ▸ hun)).2 _ _ hR' hF
              refine wpAny_of_new hQ hZ fuel _ _ _ w' hC' ⟨hF', hΦ⟩ (fun x y hxy hx => ⟨hs _ _ hxy hx.1, hst v x y (.inl hxy) hx.2⟩) (fun h => absurd him (hsub (p := True) h)) (hK v ⟨w', hC', hΦ⟩)
            · rw [if_neg him] at hR'
              refine wpAny_of_new hQ hZ fuel _ _ _ w' hC' ⟨hs _ _ hR' hF, hΦ⟩ (fun x y hxy hx => ⟨hs _ _ hxy hx.1, hst v x y (.inl hxy) hx.2⟩) (fun h => ⟨hZ _ _ hR' (hm (hold h)).1, fun x y hxy hx => ⟨(hm (hold h)).2 _ _ hxy hx.1, hst v x y (.inr ⟨him, hxy⟩) hx.2⟩⟩) (hK v ⟨w', hC', hΦ⟩)
          unfold Oper.wp
          rcases hrun with hrun | ⟨hrun, rfl⟩
          · rw [hrun]; simp only [Oper.upon]; exact key
          · rw [hrun]; simp only [Oper.upon]; exact key
      · rename_i hw
        simp only [hw] at h1
        exact wpAny_of_new hQ hZ fuel _ F _ w hC hF hs (fun h => hm (hold h)) h1⟩

def YN (P : Program) (ops : Array Oper) (C : World → Prop) (R : World → World → Prop) (o : Oper) (v : Value) (a : Act) : Prop :=
  (Region.wanted o (yielded ops a.tmps) = true ∧ Oper.qR P o a C R v) ∨ (Region.wanted o (yielded ops a.tmps) = false ∧ v = undef)
theorem YN.nOp {i : Nat} {o : Oper} {v : Value} {a : Act} {F : World → Prop} (hi : ops[i]? = some o) (hy : YN P ops C R o v a) {K : Kt} (h : K F (a.put o.dst v)) : nOp P ops C Z R Rm m i K F a := by
  unfold Go.Proofs.Ytmboadgmhafedaa.nOp
  simp only [hi]
  rcases hy with ⟨hw, hv⟩ | ⟨hw, rfl⟩
  · simp only [hw, if_true]; exact .inl ⟨v, hv, h⟩
  · simp only [hw, Bool.false_eq_true, if_false]; exact h
theorem nOp_put {j : Nat} {oi oj : Oper} {v : Value} (hj : ops[j]? = some oj) (hap : oi.apart ops oj = true)
    (hsi : ∀ cs b, oi.op ≠ .select cs b) (hsj : ∀ cs b, oj.op ≠ .select cs b) {K : Kt} {F : World → Prop} {a : Act}
    (hy : YN P ops C R oi v a) (h : nOp P ops C Z R Rm m j K F (a.put oi.dst v)) :
    nOp P ops C Z R Rm m j (fun F' a' => YN P ops C R oi v a' ∧ K F' (a'.put oi.dst v)) F a := by
  obtain ⟨h1, h2, h3⟩ := Oper.apart_spec hap
  have keep : ∀ (a : Act), YN P ops C R oi v a → ∀ u, YN P ops C R oi v (a.put oj.dst u) := fun a hy u => by
    unfold YN Oper.qR at *
    rwa [execOp_put oi hsi a oj.dst u h3, wanted_put oi a oj.dst u h3]
  unfold nOp at *
  simp only [hj] at *
  rw [wanted_put oj a oi.dst v h1] at h
  split
  · rename_i hw
    simp only [hw, if_true] at h
    rcases h with ⟨u, hu, hn⟩ | ⟨Φ, hst, hn, hK⟩
    · refine .inl ⟨u, ?_, keep a hy u, by rw [← Act.put_comm a v u h2]; exact hn⟩
      unfold Oper.qR at *
      rwa [execOp_put oj hsj a oi.dst v h1] at hu
    · refine .inr ⟨Φ, hst, ?_, fun u hu => ⟨keep a hy u, by rw [← Act.put_comm a v u h2]; exact hK u hu⟩⟩
      unfold Oper.nR at *
      rwa [execOp_put oj hsj a oi.dst v h1] at hn
  · rename_i hw
    simp only [hw] at h
    exact ⟨keep a hy _, by rw [← Act.put_comm a v undef h2]; exact h⟩
theorem nOp_put_n {i j : Nat} {oi oj : Oper} {Φ : Value → World → Prop} (hj : ops[j]? = some oj) (hap : oi.apart ops oj = true) (hin : inert oj = true)
    (hsi : ∀ cs b, oi.op ≠ .select cs b) (hsj : ∀ cs b, oj.op ≠ .select cs b) (hR : ∀ w, R w w) (hRm : ∀ w, Rm w w) (hCi : ∃ w, C w ∧ Z w) {K : Kt} (hA : Anti K) {F : World → Prop} {a : Act}
    (hw1 : Region.wanted oi (yielded ops a.tmps) = true) (hn1 : Oper.nR P i oi a C Z R Rm m Φ) (h : ∀ v, Pos C Φ v → nOp P ops C Z R Rm m j K (fun w => F w ∧ Φ v w) (a.put oi.dst v)) :
    nOp P ops C Z R Rm m j (fun F' a' => (Region.wanted oi (yielded ops a'.tmps) = true ∧ Oper.nR P i oi a' C Z R Rm m Φ) ∧ ∀ v, Pos C Φ v → K (fun w => F' w ∧ Φ v w) (a'.put oi.dst v)) F a := by
  obtain ⟨h1, h2, h3⟩ := Oper.apart_spec hap
  have keep : ∀ u, Region.wanted oi (yielded ops (a.put oj.dst u).tmps) = true ∧ Oper.nR P i oi (a.put oj.dst u) C Z R Rm m Φ := fun u => by
    unfold Oper.nR at *
    rw [execOp_put oi hsi a oj.dst u h3, wanted_put oi a oj.dst u h3]
    exact ⟨hw1, hn1⟩
  obtain ⟨ws, hCs, hZs⟩ := hCi
  obtain ⟨v0, w0, _, hC0, _, hΦ0⟩ := hn1 ws hCs (fun _ => hZs)
  unfold nOp at *
  simp only [hj] at *
  split
  · rename_i hw
    have key : ∀ v, Pos C Φ v → ∃ Ψ, Stab R Rm m j Ψ ∧ Oper.nR P j oj a C Z R Rm m Ψ ∧ ∀ u, Pos C Ψ u → K (fun w => (F w ∧ Φ v w) ∧ Ψ u w) ((a.put oi.dst v).put oj.dst u) := fun v hv => by
      have h4 := h v hv
      rw [wanted_put oj a oi.dst v h1] at h4
      simp only [hw, if_true] at h4
      rcases h4 with ⟨u, hu, hK⟩ | ⟨Ψ, hs, hn, hK⟩
      · have hrr : ∀ w, (if j = m then Rm w w else R w w) := fun w => by
          by_cases hjm : j = m
          · rw [if_pos hjm]; exact hRm w
          · rw [if_neg hjm]; exact hR w
        refine ⟨fun x _ => x = u, fun _ _ _ _ e => e, fun w hCw _ => ?_, fun x ⟨_, _, hx⟩ => ?_⟩
        · have h5 := hu w hCw
          rw [execOp_put oj hsj a oi.dst v h1] at h5
          cases hr : (execOp a.eval oj).run P w with
          | ok n w' =>
            rw [hr] at h5
            rcases inert_run hin hr with ⟨x, rfl⟩ | rfl
            · simp only [Oper.quietUpon] at h5
              obtain ⟨rfl, rfl⟩ := h5
              exact ⟨_, _, .inl rfl, hCw, hrr _, rfl⟩
            · simp only [Oper.quietUpon] at h5
              obtain ⟨rfl, rfl⟩ := h5
              exact ⟨_, _, .inr ⟨rfl, rfl⟩, hCw, hrr _, rfl⟩
          | halt x w' => rw [hr] at h5; simp only [Oper.quietUpon] at h5
        · subst hx
          exact hA _ _ _ (fun w hw => hw.1) hK
      · refine ⟨Ψ, hs, ?_, hK⟩
        unfold Oper.nR at *
        rwa [execOp_put oj hsj a oi.dst v h1] at hn
    let Ψ : ∀ v, Pos C Φ v → Value → World → Prop := fun v hv => Classical.choose (key v hv)
    have hs := fun v hv => (Classical.choose_spec (key v hv)).1
    have hn := fun v hv => (Classical.choose_spec (key v hv)).2.1
    have hK := fun v hv => (Classical.choose_spec (key v hv)).2.2
    refine .inr ⟨fun u w => ∀ v hv, Ψ v hv u w, fun u w w' hww hx v hv => hs v hv u w w' hww (hx v hv), fun w hCw hzw => ?_, fun u ⟨wu, hCu, hu⟩ => ⟨keep u, fun v hv => ?_⟩⟩
    · obtain ⟨u, w', hrun, hC', hR', hΨ⟩ := hn v0 ⟨w0, hC0, hΦ0⟩ w hCw hzw
      refine ⟨u, w', hrun, hC', hR', fun v hv => ?_⟩
      obtain ⟨u2, w2, hrun2, _, _, hΨ2⟩ := hn v hv w hCw hzw
      rcases hrun with hrun | ⟨hrun, rfl⟩ <;> rcases hrun2 with hrun2 | ⟨hrun2, rfl⟩ <;> rw [hrun] at hrun2 <;> injection hrun2 with e1 e2
      · injection e1 with e1; subst e1; subst e2; exact hΨ2
      · exact absurd e1 (by simp)
      · exact absurd e1 (by simp)
      · subst e2; exact hΨ2
    · rw [← Act.put_comm a v u h2]
      exact hA _ _ _ (fun w hw => ⟨⟨hw.1.1, hw.2⟩, hw.1.2 v hv⟩) (hK v hv u ⟨wu, hCu, hu v hv⟩)
  · rename_i hw
    refine ⟨keep _, fun v hv => ?_⟩
    have h4 := h v hv
    rw [wanted_put oj a oi.dst v h1] at h4
    simp only [hw] at h4
    rw [← Act.put_comm a v undef h2]
    exact h4

theorem wpAnyN_first_q {Q : Kt} {i : Nat} {oi : Oper} {v : Value} (hi : ops[i]? = some oi) (hsel : ∀ (j : Nat) (o : Oper) cs b, ops[j]? = some o → o.op ≠ .select cs b) :
    ∀ (fuel : Nat) (listed : Array Bool) (F : World → Prop) (a : Act),
      (∀ j oj, ops[j]? = some oj → j ≠ i → listed.getD j true = false → (∀ e ∈ oj.after, Region.binds md e = true → e.on ≠ i) → oi.apart ops oj = true) →
      i ∈ Region.ready md ops listed → YN P ops C R oi v a →
      wpAnyN P md ops C Z R Rm m Q fuel (listed.setIfInBounds i true) F (a.put oi.dst v) → wpAnyN P md ops C Z R Rm m Q (fuel + 1) listed F a := by
  intro fuel
  induction fuel with
  | zero =>
    intro listed F a _ hr hy H
    refine ⟨fun h => (by rw [h] at hr; cases hr), fun j hj => ?_⟩
    by_cases hji : j = i
    · subst hji; exact hy.nOp hi H
    · have := ready_mono hj hji
      rw [H.1] at this
      cases this
  | succ fuel ih =>
    intro listed F a hfree hr hy H
    refine ⟨fun h => (by rw [h] at hr; cases hr), fun j hj => ?_⟩
    by_cases hji : j = i
    · subst hji; exact hy.nOp hi H
    · have h1 := H.2 j (ready_mono hj hji)
      obtain ⟨hjun, oj, hoj, hall⟩ := mem_ready.1 hj
      have hnot : ∀ e ∈ oj.after, Region.binds md e = true → e.on ≠ i := fun e he hb heq => by
        have h1 := hall e he hb
        have h0 := (mem_ready.1 hr).1
        rw [heq] at h1
        rcases Nat.lt_or_ge i listed.size with h' | h'
        · simp [h'] at h0 h1; rw [h0] at h1; cases h1
        · simp [Array.getElem?_eq_none h'] at h1
      have h2 := nOp_put hoj (hfree j oj hoj hji hjun hnot) (fun cs b => hsel i oi cs b hi) (fun cs b => hsel j oj cs b hoj) hy h1
      have hfree' : ∀ k ok, ops[k]? = some ok → k ≠ i → (listed.setIfInBounds j true).getD k true = false →
          (∀ e ∈ ok.after, Region.binds md e = true → e.on ≠ i) → oi.apart ops ok = true := fun k ok hk hki hun hno => by
        refine hfree k ok hk hki ?_ hno
        by_cases hjk : j = k
        · subst hjk; exact hjun
        · rw [getD_set_ne true hjk] at hun; exact hun
      refine nOp_mono (fun F' a' h3 => ih (listed.setIfInBounds j true) F' a' hfree' (ready_mono hr (Ne.symm hji)) h3.1 ?_) h2
      rw [Array.setIfInBounds_comm _ _ hji]
      exact h3.2
-- every listed operation's waits are listed
def Closed (md : Region.Mode) (ops : Array Oper) (L : Array Bool) : Prop := ∀ x ox, ops[x]? = some ox → L.getD x true = true → ∀ e ∈ ox.after, Region.binds md e = true → L.getD e.on true = true
theorem getD_set_true (L : Array Bool) (j : Nat) : (L.setIfInBounds j true).getD j true = true := by
  rw [Array.getD_eq_getD_getElem?, Array.getElem?_setIfInBounds]
  by_cases hlt : j < L.size
  · simp [hlt]
  · simp [hlt]
theorem getD_rep {n x : Nat} (h : x < n) : ¬ (Array.replicate n false).getD x true = true := by
  rw [Array.getD_eq_getD_getElem?, Array.getElem?_replicate, if_pos h]
  simp
theorem getD_ft {L : Array Bool} {x : Nat} (h : L.getD x false = true) : L.getD x true = true := by
  rw [Array.getD_eq_getD_getElem?] at *
  cases hx : L[x]? with
  | none => rfl
  | some b => rw [hx] at h; exact h
theorem getD_set_mono {L : Array Bool} {x : Nat} (j : Nat) (h : L.getD x true = true) : (L.setIfInBounds j true).getD x true = true := by
  by_cases hjx : j = x
  · subst hjx; exact getD_set_true L j
  · rw [getD_set_ne true hjx]; exact h
theorem Closed.set {L : Array Bool} {j : Nat} (h : Closed md ops L) (hj : j ∈ Region.ready md ops L) : Closed md ops (L.setIfInBounds j true) := by
  intro x ox hx hl e he hb
  by_cases hxj : j = x
  · subst hxj
    obtain ⟨_, o, ho, hall⟩ := mem_ready.1 hj
    rw [ho] at hx
    injection hx with hx
    subst hx
    exact getD_set_mono _ (getD_ft (hall e he hb))
  · rw [getD_set_ne true hxj] at hl
    exact getD_set_mono _ (h x ox hx hl e he hb)
theorem wpAnyN_first_n {Q : Kt} (hQ : Anti Q) {i : Nat} {oi : Oper} {Φ : Value → World → Prop} (hi : ops[i]? = some oi) (hsel : ∀ (j : Nat) (o : Oper) cs b, ops[j]? = some o → o.op ≠ .select cs b) (hR : ∀ w, R w w) (hRm : ∀ w, Rm w w) (hCi : ∃ w, C w ∧ Z w) (hst : Stab R Rm m i Φ) (L0 : Array Bool)
    (hfree : ∀ L : Array Bool, Closed md ops L → (∀ j, L0.getD j true = true → L.getD j true = true) → L.getD i true = false → ∀ j oj, ops[j]? = some oj → j ≠ i → j ∈ Region.ready md ops L → oi.apart ops oj = true ∧ inert oj = true) :
    ∀ (fuel : Nat) (listed : Array Bool) (F : World → Prop) (a : Act),
      Closed md ops listed → (∀ j, L0.getD j true = true → listed.getD j true = true) →
      i ∈ Region.ready md ops listed → Region.wanted oi (yielded ops a.tmps) = true → Oper.nR P i oi a C Z R Rm m Φ →
      (∀ v, Pos C Φ v → wpAnyN P md ops C Z R Rm m Q fuel (listed.setIfInBounds i true) (fun w => F w ∧ Φ v w) (a.put oi.dst v)) → wpAnyN P md ops C Z R Rm m Q (fuel + 1) listed F a := by
  intro fuel
  induction fuel with
  | zero =>
    intro listed F a _ _ hr hw hn H
    refine ⟨fun h => (by rw [h] at hr; cases hr), fun j hj => ?_⟩
    by_cases hji : j = i
    · subst hji
      unfold nOp
      simp only [hi, hw, if_true]
      exact .inr ⟨Φ, hst, hn, H⟩
    · have := ready_mono hj hji
      obtain ⟨ws, hCs, hZs⟩ := hCi
      obtain ⟨v0, w0, _, hC0, _, hΦ0⟩ := hn ws hCs (fun _ => hZs)
      rw [(H v0 ⟨w0, hC0, hΦ0⟩).1] at this
      cases this
  | succ fuel ih =>
    intro listed F a hcl hlo hr hw hn H
    refine ⟨fun h => (by rw [h] at hr; cases hr), fun j hj => ?_⟩
    by_cases hji : j = i
    · subst hji
      unfold nOp
      simp only [hi, hw, if_true]
      exact .inr ⟨Φ, hst, hn, H⟩
    · have h1 := fun v hv => (H v hv).2 j (ready_mono hj hji)
      obtain ⟨hjun, oj, hoj, hall⟩ := mem_ready.1 hj
      obtain ⟨hap, hin⟩ := hfree listed hcl hlo (mem_ready.1 hr).1 j oj hoj hji hj
      have h2 := nOp_put_n hoj hap hin (fun cs b => hsel i oi cs b hi) (fun cs b => hsel j oj cs b hoj) hR hRm hCi (wpAnyN_anti hQ fuel _) hw hn h1
      refine nOp_mono (fun F' a' h3 => ih (listed.setIfInBounds j true) F' a' (hcl.set hj) (fun x hx => getD_set_mono j (hlo x hx)) (ready_mono hr (Ne.symm hji)) h3.1.1 h3.1.2 (fun v hv => ?_)) h2
      rw [Array.setIfInBounds_comm _ _ hji]
      exact h3.2 v hv

-- the walk in the text's own order (k: the number of the first)
def wpNew (P : Program) (ops : Array Oper) (C Z : World → Prop) (R Rm : World → World → Prop) (m : Nat) (Q : Kt) : Nat → List Oper → Kt
  | _, [], F, a => Q F a
  | k, o :: rest, F, a => if Region.wanted o (yielded ops a.tmps) then
      (∃ v, Oper.qR P o a C R v ∧ wpNew P ops C Z R Rm m Q (k + 1) rest F (a.put o.dst v)) ∨
      (newsy o = true ∧ ∃ Φ, Stab R Rm m k Φ ∧ Oper.nR P k o a C Z R Rm m Φ ∧ ∀ v, Pos C Φ v → wpNew P ops C Z R Rm m Q (k + 1) rest (fun w => F w ∧ Φ v w) (a.put o.dst v))
    else wpNew P ops C Z R Rm m Q (k + 1) rest F (a.put o.dst undef)
-- behind what makes news either waits for it (by whatever way), or enters no function; S: those that wait
def descOk (md : Region.Mode) : List Nat → Nat → List Oper → Bool
  | _, _, [] => true
  | S, k, y :: rest => if (waitL md y).any (fun e => S.contains e) then descOk md (k :: S) (k + 1) rest else inert y && descOk md S (k + 1) rest
def okI (md : Region.Mode) : Nat → List Oper → Bool
  | _, [] => true
  | k, x :: rest => (!newsy x || descOk md [k] (k + 1) rest) && okI md (k + 1) rest
theorem desc_sound {L : Array Bool} (hcl : Closed md ops L) : ∀ (l : List Oper) (S : List Nat) (k : Nat), descOk md S k l = true → (∀ j, l[j]? = ops[k + j]?) → (∀ x ∈ S, L.getD x true = false) → ∀ (j : Nat) (oj : Oper), k ≤ j → ops[j]? = some oj → j ∈ Region.ready md ops L → inert oj = true
  | [], S, k, _, hl, _, j, oj, hj, ho, _ => by
    have := hl (j - k)
    rw [show k + (j - k) = j by omega, ho] at this
    simp at this
  | y :: l, S, k, h, hl, hS, j, oj, hj, ho, hr => by
    have h0 : ops[k]? = some y := by simpa using (hl 0).symm
    have hl' : ∀ j, l[j]? = ops[k + 1 + j]? := fun j => by have := hl (j + 1); simpa [Nat.add_assoc, Nat.add_comm 1 j] using this
    unfold descOk at h
    by_cases hw : (waitL md y).any (fun e => S.contains e) = true
    · rw [if_pos hw] at h
      obtain ⟨e0, he0, hin0⟩ := List.any_eq_true.1 hw
      obtain ⟨e, he, hb, hon⟩ := mem_waitL.1 he0
      have hun : L.getD e.on true = false := by rw [hon]; exact hS e0 (by simpa using hin0)
      by_cases hjk : j = k
      · subst hjk
        rw [h0] at ho
        injection ho with ho
        subst ho
        obtain ⟨_, o, ho, hall⟩ := mem_ready.1 hr
        rw [h0] at ho
        injection ho with ho
        subst ho
        have := getD_ft (hall e he hb)
        rw [hun] at this; cases this
      · refine desc_sound hcl l (k :: S) (k + 1) h hl' (fun x hx => ?_) j oj (by omega) ho hr
        rcases List.mem_cons.1 hx with rfl | hx
        · cases hb2 : L.getD x true with
          | false => rfl
          | true => have := hcl x y h0 hb2 e he hb; rw [hun] at this; cases this
        · exact hS x hx
    · rw [if_neg hw, Bool.and_eq_true] at h
      by_cases hjk : j = k
      · subst hjk
        rw [h0] at ho
        injection ho with ho
        subst ho
        exact h.1
      · exact desc_sound hcl l S (k + 1) h.2 hl' hS j oj (by omega) ho hr
theorem okI_of : ∀ (l : List Oper) (k : Nat), okI md k l = true → (∀ j, l[j]? = ops[k + j]?) → ∀ (i : Nat) (o : Oper), k ≤ i → ops[i]? = some o → newsy o = true → ∀ L : Array Bool, Closed md ops L → L.getD i true = false → ∀ (j : Nat) (oj : Oper), i < j → ops[j]? = some oj → j ∈ Region.ready md ops L → inert oj = true
  | [], k, _, hl, i, o, hi, ho, _, _, _, _, _, _, _, _, _ => by
    have := hl (i - k)
    rw [show k + (i - k) = i by omega, ho] at this
    simp at this
  | x :: l, k, h, hl, i, o, hi, ho, hn, L, hcl, hun, j, oj, hij, hoj, hr => by
    simp only [okI, Bool.and_eq_true] at h
    obtain ⟨h1, h2⟩ := h
    have hl' : ∀ j, l[j]? = ops[k + 1 + j]? := fun j => by have := hl (j + 1); simpa [Nat.add_assoc, Nat.add_comm 1 j] using this
    by_cases hik : i = k
    · subst hik
      have hx : x = o := by
        have := hl 0
        simp only [List.getElem?_cons_zero, Nat.add_zero] at this
        rw [ho] at this; exact Option.some.inj this
      subst hx
      rw [hn] at h1
      simp only [Bool.not_true, Bool.false_or] at h1
      exact desc_sound hcl l [i] (i + 1) h1 hl' (fun x hx => by rw [List.mem_singleton.1 hx]; exact hun) j oj (by omega) hoj hr
    · exact okI_of l (k + 1) h2 hl' i o (by omega) ho hn L hcl hun j oj hij hoj hr
theorem wpAnyN_lex {Q : Kt} (hQ : Anti Q) (hs : Region.noSelect ops = true) (hR : ∀ w, R w w) (hRm : ∀ w, Rm w w) (hCi : ∃ w, C w ∧ Z w)
    (hI : ∀ (i : Nat) (o : Oper), ops[i]? = some o → newsy o = true → ∀ L : Array Bool, Closed md ops L → L.getD i true = false → ∀ (j : Nat) (oj : Oper), i < j → ops[j]? = some oj → j ∈ Region.ready md ops L → inert oj = true) :
    ∀ (l : List Oper) (k : Nat) (listed : Array Bool) (F : World → Prop) (a : Act), (∀ j, l[j]? = ops[k + j]?) → Closed md ops listed → (∀ j, j < k → listed.getD j true = true) →
    Region.lexFrom md ops l.length k listed = true → wpNew P ops C Z R Rm m Q k l F a → wpAnyN P md ops C Z R Rm m Q l.length listed F a
  | [], _, _, _, _, _, _, _, hB, h => ⟨by simpa [Region.lexFrom] using hB, h⟩
  | o :: l, k, listed, F, a, hl, hcl, hlt, hB, h => by
    have h0 : ops[k]? = some o := by simpa using (hl 0).symm
    simp only [List.length_cons, Region.lexFrom, Bool.and_eq_true] at hB
    obtain ⟨⟨hr, hf⟩, hB'⟩ := hB
    have hl' : ∀ j, l[j]? = ops[k + 1 + j]? := fun j => by have := hl (j + 1); simpa [Nat.add_assoc, Nat.add_comm 1 j] using this
    have hlt' : ∀ j, j < k + 1 → (listed.setIfInBounds k true).getD j true = true := fun j hj => by
      by_cases hjk : k = j
      · subst hjk
        rw [Array.getD_eq_getD_getElem?, Array.getElem?_setIfInBounds]
        by_cases hlt : k < listed.size
        · simp [hlt]
        · simp [hlt]
      · rw [getD_set_ne true hjk]; exact hlt j (by omega)
    have hrk : k ∈ Region.ready md ops listed := by simpa using hr
    unfold wpNew at h
    by_cases hw : Region.wanted o (yielded ops a.tmps) = true
    · rw [if_pos hw] at h
      rcases h with ⟨v, hq, hK⟩ | ⟨hn, Φ, hst, hnR, hK⟩
      · exact wpAnyN_first_q h0 (Region.noSelect_spec hs) l.length listed F a (Region.free_spec h0 hf) hrk (.inl ⟨hw, hq⟩) (wpAnyN_lex hQ hs hR hRm hCi hI l (k + 1) _ _ _ hl' (hcl.set hrk) hlt' hB' hK)
      · refine wpAnyN_first_n hQ h0 (Region.noSelect_spec hs) hR hRm hCi hst listed (fun L hL hLlo hLk j oj hoj hjk hjr => ?_) l.length listed F a hcl (fun _ h => h) hrk hw hnR (fun v hv => wpAnyN_lex hQ hs hR hRm hCi hI l (k + 1) _ _ _ hl' (hcl.set hrk) hlt' hB' (hK v hv))
        obtain ⟨hjun, oj', hoj', hall⟩ := mem_ready.1 hjr
        rw [hoj] at hoj'
        injection hoj' with hoj'
        subst hoj'
        have hlj : listed.getD j true = false := by
          cases hb : listed.getD j true with
          | false => rfl
          | true => rw [hLlo j hb] at hjun; cases hjun
        have hkj : k < j := by
          rcases Nat.lt_or_ge j k with h | h
          · rw [hlt j h] at hlj; cases hlj
          · omega
        exact ⟨Region.free_spec h0 hf j oj hoj hjk hlj (fun e he hb he2 => by have := getD_ft (hall e he hb); rw [he2, hLk] at this; cases this), hI k o h0 hn L hL hLk j oj hkj hoj hjr⟩
    · rw [if_neg hw] at h
      exact wpAnyN_first_q h0 (Region.noSelect_spec hs) l.length listed F a (Region.free_spec h0 hf) hrk (.inr ⟨by simpa using hw, rfl⟩) (wpAnyN_lex hQ hs hR hRm hCi hI l (k + 1) _ _ _ hl' (hcl.set hrk) hlt' hB' h)
-- the region's law: C the class of worlds, Z what holds till operation m has been carried out, R what the others do to a world, Rm what m does
theorem wp_region_news (C Z : World → Prop) (R Rm : World → World → Prop) (m : Nat) {id : Nat} {Q : Exit → Act → World → Prop} {a : Act} {w : World} {l : List Oper} (hm : P.follows .mixedOrders = true) (hB : Region.lexB .any l.toArray = true) (hI : okI .any 0 l = true)
    (hR : ∀ w, R w w) (hRm : ∀ w, Rm w w) (hC : C w.drew) (hZ0 : Z w.drew) (hZ : ∀ w w', R w w' → Z w → Z w')
    (h : wpNew P l.toArray C Z R Rm m (fun F a' => ∀ w', C w' → F w' → Q .normal a' w') 0 l (fun _ => True) a) : (Code.region id l.toArray true).wp P Q a w := by
  simp only [Region.lexB, Bool.and_eq_true] at hB
  have hA : Anti (fun F a' => ∀ w', C w' → F w' → Q .normal a' w') := fun F F' a hF h w' hC hF' => h w' hC (hF w' hF')
  refine wp_region_any hm (wpAny_of_new (C := C) (Z := Z) (R := R) (Rm := Rm) (m := m) (Q := fun F a' => ∀ w', C w' → F w' → Q .normal a' w') (fun F a w hC hF h => h w hC hF) hZ _ _ (fun _ => True) _ _ hC trivial (fun _ _ _ _ => trivial) (fun _ => ⟨hZ0, fun _ _ _ _ => trivial⟩) ?_)
  have := wpAnyN_lex (P := P) (C := C) (Z := Z) (R := R) (Rm := Rm) (m := m) (md := .any) hA hB.1 hR hRm ⟨_, hC, hZ0⟩ (fun i o ho hn L hcl hun j oj hij hoj hr => okI_of (ops := l.toArray) l 0 hI (fun j => by simp) i o (Nat.zero_le _) ho hn L hcl hun j oj hij hoj hr) l 0 (Array.replicate l.length false) (fun _ => True) a (fun j => by simp) (fun x ox hx hl => absurd hl (getD_rep (by simpa using (Array.getElem?_eq_some_iff.1 hx).1))) (fun j hj => by omega) (by simpa using hB.2) h
  simpa using this

-- the steps
variable {F : World → Prop} {a : Act} {o : Oper} {rest : List Oper} {Q : Kt} {k : Nat}
theorem wpNew_nil (h : Q F a) : wpNew P ops C Z R Rm m Q k [] F a := h
theorem wpNew_want (hw : Region.wanted o (yielded ops a.tmps) = true) (hin : inert o = true) (h : ∀ K : Act → Prop, (∀ a, wpNew P ops C Z R Rm m Q (k + 1) rest F a → K a) → o.quiet P a C K) : wpNew P ops C Z R Rm m Q k (o :: rest) F a := by
  unfold wpNew
  rw [if_pos hw]
  obtain ⟨v, h1, h2⟩ := h _ (fun _ h => h)
  refine .inl ⟨v, fun w hC => ?_, h2⟩
  have h3 := h1 w hC
  unfold Oper.quietAt at h3
  cases hr : (execOp a.eval o).run P w with
  | ok n w' =>
    rw [hr] at h3
    rcases inert_run hin hr with ⟨x, rfl⟩ | rfl
    · exact h3
    · exact h3
  | halt x w' => rw [hr] at h3; exact h3
theorem wpNew_call {f : FuncId} {args : Array Value} (v : Value) (hw : Region.wanted o (yielded ops a.tmps) = true) (ho : ∀ w, (execOp a.eval o).run P w = .ok (.enter f args) w)
    (hc : ∀ w, C w → Calls P f args w fun e w'' => e = .returned v ∧ C w'' ∧ R w w'') (h : wpNew P ops C Z R Rm m Q (k + 1) rest F (a.put o.dst v)) : wpNew P ops C Z R Rm m Q k (o :: rest) F a := by
  unfold wpNew
  rw [if_pos hw]
  refine .inl ⟨v, fun w hC => ?_, h⟩
  rw [ho w]
  exact ⟨rfl, hc w hC⟩
theorem wpNew_news (Φ : Value → World → Prop) (hw : Region.wanted o (yielded ops a.tmps) = true) (hn : newsy o = true) (hst : Stab R Rm m k Φ) (hnR : Oper.nR P k o a C Z R Rm m Φ)
    (h : ∀ v, Pos C Φ v → wpNew P ops C Z R Rm m Q (k + 1) rest (fun w => F w ∧ Φ v w) (a.put o.dst v)) : wpNew P ops C Z R Rm m Q k (o :: rest) F a := by
  unfold wpNew
  rw [if_pos hw]
  exact .inr ⟨hn, Φ, hst, hnR, h⟩
end
end Go.Proofs.Ytmboadgmhafedaa
