/-
  A region that draws its order, whose operations that touch memory wait for one another in a chain (whatever each is handed, the one behind it takes); the others only read, and their values hold in every world of a class (C; Z besides, till operation m).
-/
import Derived.Test.YtmboadgmhafedaaNwt
set_option linter.unusedVariables false
namespace Go.Proofs.Ytmboadgmhafedaa
open Go.RowKit

section
variable {P : Program} {ops : Array Oper} {md : Region.Mode} {C Z : World → Prop} {m : Nat} {E : List Nat}
def pureOp (o : Oper) : Bool :=
  match o.op with
  | .move _ | .assign _ | .build _ _ | .load _ _ | .nilCheck _ | .binOp .. | .unOp .. | .convert .. | .slice .. | .fieldAddr .. | .field .. | .indexAddr .. | .index .. | .extract .. => true
  | _ => false
theorem pure_inert {o : Oper} (h : pureOp o = true) : inert o = true := by
  unfold pureOp at h
  unfold inert
  split at h <;> simp_all
-- the operations that m waits for, by whatever way
def ancL (md : Region.Mode) : List (Nat × Oper) → List Nat → List Nat
  | [], S => S
  | (k, o) :: r, S => ancL md r (if S.contains k then waitL md o ++ S else S)
theorem anc_sound {L : Array Bool} (hcl : Closed md ops L) : ∀ (r : List (Nat × Oper)) (S : List Nat), (∀ p ∈ r, ops[p.1]? = some p.2) → (∀ x ∈ S, L.getD x true = true) → ∀ x ∈ ancL md r S, L.getD x true = true
  | [], S, _, hS, x, hx => hS x hx
  | (k, o) :: r, S, hr, hS, x, hx => by
    refine anc_sound hcl r _ (fun p hp => hr p (List.mem_cons_of_mem _ hp)) (fun y hy => ?_) x hx
    by_cases hk : S.contains k = true
    · rw [if_pos hk] at hy
      rcases List.mem_append.1 hy with hy | hy
      · obtain ⟨e, he, hb, rfl⟩ := mem_waitL.1 hy
        exact hcl k o (hr (k, o) (List.mem_cons_self ..)) (hS k (by simpa using hk)) e he hb
      · exact hS y hy
    · rw [if_neg hk] at hy
      exact hS y hy
def numL : Nat → List Oper → List (Nat × Oper)
  | _, [] => []
  | k, o :: r => (k, o) :: numL (k + 1) r
theorem numL_at : ∀ (l : List Oper) (k : Nat), (∀ j, l[j]? = ops[k + j]?) → ∀ p ∈ numL k l, ops[p.1]? = some p.2
  | [], _, _, p, hp => by cases hp
  | o :: l, k, h, p, hp => by
    rcases List.mem_cons.1 hp with rfl | hp
    · simpa using (h 0).symm
    · exact numL_at l (k + 1) (fun j => by have := h (j + 1); simpa [Nat.add_assoc, Nat.add_comm 1 j] using this) p hp
def early (md : Region.Mode) (l : List Oper) (m : Nat) : List Nat := ancL md (numL 0 l).reverse [m]

-- the class in which operation i reads
def Dc (C Z : World → Prop) (E : List Nat) (i : Nat) (w : World) : Prop := C w ∧ (i ∈ E → Z w)
def Oper.qC (P : Program) (i : Nat) (o : Oper) (a : Act) (C Z : World → Prop) (E : List Nat) (v : Value) : Prop :=
  ∀ w, Dc C Z E i w → Oper.quietUpon P (fun w'' => w'' = w) w v ((execOp a.eval o).run P w)
def Oper.nC (P : Program) (i : Nat) (o : Oper) (a : Act) (C Z : World → Prop) (E : List Nat) (m : Nat) (F : World → Prop) (Φ : Value → World → Prop) : Prop :=
  ∀ w, Dc C Z E i w → F w → ∃ v w', ((execOp a.eval o).run P w = .ok (.value v) w' ∨ ((execOp a.eval o).run P w = .ok .skip w' ∧ v = undef)) ∧ C w' ∧ (i ≠ m → Z w → Z w') ∧ Φ v w'
def PosC (C Z : World → Prop) (i m : Nat) (Φ : Value → World → Prop) (v : Value) : Prop := ∃ w, C w ∧ (i < m → Z w) ∧ Φ v w
def cOp (P : Program) (ops : Array Oper) (C Z : World → Prop) (E : List Nat) (m i : Nat) (K : Kt) (F : World → Prop) (a : Act) : Prop :=
  match ops[i]? with
  | none => K F a
  | some o => if Region.wanted o (yielded ops a.tmps) then
      if pureOp o then ∃ v, Oper.qC P i o a C Z E v ∧ K F (a.put o.dst v)
      else (i ≤ m → i ∈ E) ∧ ∃ Φ, Oper.nC P i o a C Z E m F Φ ∧ ∀ v, PosC C Z i m Φ v → K (Φ v) (a.put o.dst v)
    else K F (a.put o.dst undef)
theorem cOp_anti {i : Nat} {K : Kt} (hK : Anti K) : Anti (cOp P ops C Z E m i K) := by
  intro F F' a hF h
  unfold cOp at *
  cases ho : ops[i]? with
  | none => simp only [ho] at h ⊢; exact hK _ _ _ hF h
  | some o =>
    simp only [ho] at h ⊢
    split
    · rename_i hw
      simp only [hw, if_true] at h
      split
      · rename_i hp
        simp only [hp, if_true] at h
        obtain ⟨v, h1, h2⟩ := h
        exact ⟨v, h1, hK _ _ _ hF h2⟩
      · rename_i hp
        simp only [hp] at h
        obtain ⟨hE, Φ, h1, h2⟩ := h
        exact ⟨hE, Φ, fun w hD hw => h1 w hD (hF w hw), h2⟩
    · rename_i hw
      simp only [hw] at h
      exact hK _ _ _ hF h
theorem cOp_mono {i : Nat} {K K' : Kt} (hK : ∀ F a, K F a → K' F a) {F : World → Prop} {a : Act} (h : cOp P ops C Z E m i K F a) : cOp P ops C Z E m i K' F a := by
  unfold cOp at *
  cases ho : ops[i]? with
  | none => simp only [ho] at h ⊢; exact hK _ _ h
  | some o =>
    simp only [ho] at h ⊢
    split
    · rename_i hw
      simp only [hw, if_true] at h
      split
      · rename_i hp
        simp only [hp, if_true] at h
        obtain ⟨v, h1, h2⟩ := h
        exact ⟨v, h1, hK _ _ h2⟩
      · rename_i hp
        simp only [hp] at h
        obtain ⟨hE, Φ, h1, h2⟩ := h
        exact ⟨hE, Φ, h1, fun v hv => hK _ _ (h2 v hv)⟩
    · rename_i hw
      simp only [hw] at h
      exact hK _ _ h
def wpAnyC (P : Program) (md : Region.Mode) (ops : Array Oper) (C Z : World → Prop) (E : List Nat) (m : Nat) (Q : Kt) : Nat → Array Bool → Kt
  | 0, listed, F, a => Region.ready md ops listed = [] ∧ Q F a
  | fuel + 1, listed, F, a =>
    (Region.ready md ops listed = [] → Q F a) ∧
    ∀ i ∈ Region.ready md ops listed, cOp P ops C Z E m i (wpAnyC P md ops C Z E m Q fuel (listed.setIfInBounds i true)) F a
theorem wpAnyC_anti {Q : Kt} (hQ : Anti Q) : ∀ (fuel : Nat) (listed : Array Bool), Anti (wpAnyC P md ops C Z E m Q fuel listed)
  | 0, _, _, _, _, hF, h => ⟨h.1, hQ _ _ _ hF h.2⟩
  | fuel + 1, _, _, _, _, hF, h => ⟨fun h0 => hQ _ _ _ hF (h.1 h0), fun i hi => cOp_anti (wpAnyC_anti hQ fuel _) _ _ _ hF (h.2 i hi)⟩
-- what the list E must say
def EarlyOk (md : Region.Mode) (ops : Array Oper) (E : List Nat) (m : Nat) : Prop := ∀ L : Array Bool, Closed md ops L → L.getD m true = true → ∀ x ∈ E, L.getD x true = true
theorem wpAny_of_chn {Q : Kt} {Q' : Exit → Act → World → Prop} (hQ : ∀ F a w, C w → F w → Q F a → Q' .normal a w) (hE : EarlyOk md ops E m) : ∀ (fuel : Nat) (listed : Array Bool) (F : World → Prop) (a : Act) (w : World), C w → F w → Closed md ops listed →
    (listed.getD m true = false → Z w) → wpAnyC P md ops C Z E m Q fuel listed F a → wpAny P md ops Q' fuel listed a w
  | 0, _, _, _, _, hC, hF, _, _, h => ⟨h.1, hQ _ _ _ hC hF h.2⟩
  | fuel + 1, listed, F, a, w, hC, hF, hcl, hm, h => ⟨fun h0 => hQ _ _ _ hC hF (h.1 h0), fun i hi => by
      have h1 := h.2 i hi
      obtain ⟨hun, o, ho, _⟩ := mem_ready.1 hi
      have hne : (listed.setIfInBounds i true).getD m true = false → i ≠ m := fun h e => by
        subst e
        rw [getD_set_true] at h; cases h
      have hold : (listed.setIfInBounds i true).getD m true = false → listed.getD m true = false := fun h => by
        rwa [getD_set_ne true (hne h)] at h
      have hz : i ∈ E → Z w := fun he => hm (by
        cases hb : listed.getD m true with
        | false => rfl
        | true => have := hE listed hcl hb i he; rw [hun] at this; cases this)
      unfold cOp at h1
      unfold wpOp
      simp only [ho] at h1 ⊢
      split
      · rename_i hw
        simp only [hw, if_true] at h1
        left
        split at h1
        · obtain ⟨v, hq, hK⟩ := h1
          have h3 := hq w ⟨hC, hz⟩
          unfold Oper.wp
          generalize (execOp a.eval o).run P w = r at *
          cases r with
          | ok n w' =>
            cases n <;> simp only [Oper.quietUpon] at h3 <;> simp only [Oper.upon]
            case value u =>
              obtain ⟨e1, e2⟩ := h3
              rw [e1, e2]
              exact wpAny_of_chn hQ hE fuel _ F _ w hC hF (hcl.set hi) (fun h => hm (hold h)) hK
            case skip =>
              obtain ⟨e1, e2⟩ := h3
              rw [e1, ← e2]
              exact wpAny_of_chn hQ hE fuel _ F _ w hC hF (hcl.set hi) (fun h => hm (hold h)) hK
            case enter f args =>
              obtain ⟨e1, hc⟩ := h3
              rw [e1]
              refine hc.mono fun e w'' ⟨he, hC''⟩ => ?_
              subst he hC''
              exact wpAny_of_chn hQ hE fuel _ F _ w'' hC hF (hcl.set hi) (fun h => hm (hold h)) hK
          | halt x w' => simp only [Oper.quietUpon] at h3
        · obtain ⟨hie, Φ, hn, hK⟩ := h1
          obtain ⟨v, w', hrun, hC', hZ', hΦ⟩ := hn w ⟨hC, hz⟩ hF
          have hpos : PosC C Z i m Φ v := ⟨w', hC', fun him => hZ' (Nat.ne_of_lt him) (hz (hie (Nat.le_of_lt him))), hΦ⟩
          have key : wpAny P md ops Q' fuel (listed.setIfInBounds i true) (a.put o.dst v) w' := by
            refine wpAny_of_chn hQ hE fuel _ (Φ v) _ w' hC' hΦ (hcl.set hi) (fun h => hZ' (hne h) (hm (hold h))) (hK v hpos)
          unfold Oper.wp
          rcases hrun with hrun | ⟨hrun, rfl⟩
          · rw [hrun]; simp only [Oper.upon]; exact key
          · rw [hrun]; simp only [Oper.upon]; exact key
      · rename_i hw
        simp only [hw] at h1
        exact wpAny_of_chn hQ hE fuel _ F _ w hC hF (hcl.set hi) (fun h => hm (hold h)) h1⟩

def YC (P : Program) (ops : Array Oper) (i : Nat) (C Z : World → Prop) (E : List Nat) (o : Oper) (v : Value) (a : Act) : Prop :=
  (Region.wanted o (yielded ops a.tmps) = true ∧ pureOp o = true ∧ Oper.qC P i o a C Z E v) ∨ (Region.wanted o (yielded ops a.tmps) = false ∧ v = undef)
theorem YC.cOp {i : Nat} {o : Oper} {v : Value} {a : Act} {F : World → Prop} (hi : ops[i]? = some o) (hy : YC P ops i C Z E o v a) {K : Kt} (h : K F (a.put o.dst v)) : cOp P ops C Z E m i K F a := by
  unfold Go.Proofs.Ytmboadgmhafedaa.cOp
  simp only [hi]
  rcases hy with ⟨hw, hp, hv⟩ | ⟨hw, rfl⟩
  · simp only [hw, hp, if_true]; exact ⟨v, hv, h⟩
  · simp only [hw, Bool.false_eq_true, if_false]; exact h
theorem cOp_put {i j : Nat} {oi oj : Oper} {v : Value} (hj : ops[j]? = some oj) (hap : oi.apart ops oj = true)
    (hsi : ∀ cs b, oi.op ≠ .select cs b) (hsj : ∀ cs b, oj.op ≠ .select cs b) {K : Kt} {F : World → Prop} {a : Act}
    (hy : YC P ops i C Z E oi v a) (h : cOp P ops C Z E m j K F (a.put oi.dst v)) :
    cOp P ops C Z E m j (fun F' a' => YC P ops i C Z E oi v a' ∧ K F' (a'.put oi.dst v)) F a := by
  obtain ⟨h1, h2, h3⟩ := Oper.apart_spec hap
  have keep : ∀ (a : Act), YC P ops i C Z E oi v a → ∀ u, YC P ops i C Z E oi v (a.put oj.dst u) := fun a hy u => by
    unfold YC Oper.qC at *
    rwa [execOp_put oi hsi a oj.dst u h3, wanted_put oi a oj.dst u h3]
  unfold cOp at *
  simp only [hj] at *
  rw [wanted_put oj a oi.dst v h1] at h
  split
  · rename_i hw
    simp only [hw, if_true] at h
    split
    · rename_i hp
      simp only [hp, if_true] at h
      obtain ⟨u, hu, hn⟩ := h
      refine ⟨u, ?_, keep a hy u, by rw [← Act.put_comm a v u h2]; exact hn⟩
      unfold Oper.qC at *
      rwa [execOp_put oj hsj a oi.dst v h1] at hu
    · rename_i hp
      simp only [hp] at h
      obtain ⟨hE, Φ, hn, hK⟩ := h
      refine ⟨hE, Φ, ?_, fun u hu => ⟨keep a hy u, by rw [← Act.put_comm a v u h2]; exact hK u hu⟩⟩
      unfold Oper.nC at *
      rwa [execOp_put oj hsj a oi.dst v h1] at hn
  · rename_i hw
    simp only [hw] at h
    exact ⟨keep a hy _, by rw [← Act.put_comm a v undef h2]; exact h⟩
theorem cOp_put_n {i j : Nat} {oi oj : Oper} {Φ : Value → World → Prop} (hj : ops[j]? = some oj) (hap : oi.apart ops oj = true) (hpj : pureOp oj = true)
    (hsi : ∀ cs b, oi.op ≠ .select cs b) (hsj : ∀ cs b, oj.op ≠ .select cs b) {K : Kt} (hA : Anti K) {F : World → Prop} {a : Act} {w0 : World} (hw0 : Dc C Z E i w0) (hf0 : F w0) (hwj : Dc C Z E j w0) (hiE : i ≤ m → i ∈ E)
    (hw1 : Region.wanted oi (yielded ops a.tmps) = true) (hn1 : Oper.nC P i oi a C Z E m F Φ) (h : ∀ v, PosC C Z i m Φ v → cOp P ops C Z E m j K (Φ v) (a.put oi.dst v)) :
    cOp P ops C Z E m j (fun F' a' => (F' = F ∧ Region.wanted oi (yielded ops a'.tmps) = true ∧ Oper.nC P i oi a' C Z E m F Φ) ∧ ∀ v, PosC C Z i m Φ v → K (Φ v) (a'.put oi.dst v)) F a := by
  obtain ⟨h1, h2, h3⟩ := Oper.apart_spec hap
  have keep : ∀ u, Region.wanted oi (yielded ops (a.put oj.dst u).tmps) = true ∧ Oper.nC P i oi (a.put oj.dst u) C Z E m F Φ := fun u => by
    unfold Oper.nC at *
    rw [execOp_put oi hsi a oj.dst u h3, wanted_put oi a oj.dst u h3]
    exact ⟨hw1, hn1⟩
  obtain ⟨v0, w1, _, hC1, hZ1, hΦ1⟩ := hn1 w0 hw0 hf0
  have hpos0 : PosC C Z i m Φ v0 := ⟨w1, hC1, fun him => hZ1 (Nat.ne_of_lt him) (hw0.2 (hiE (Nat.le_of_lt him))), hΦ1⟩
  unfold cOp at *
  simp only [hj] at *
  split
  · rename_i hw
    have h4 : ∀ v, PosC C Z i m Φ v → ∃ u, Oper.qC P j oj a C Z E u ∧ K (Φ v) ((a.put oi.dst v).put oj.dst u) := fun v hv => by
      have h5 := h v hv
      rw [wanted_put oj a oi.dst v h1] at h5
      simp only [hw, hpj, if_true] at h5
      obtain ⟨u, hu, hK⟩ := h5
      unfold Oper.qC at *
      rw [execOp_put oj hsj a oi.dst v h1] at hu
      exact ⟨u, hu, hK⟩
    obtain ⟨u0, hu0, _⟩ := h4 v0 hpos0
    refine ⟨u0, hu0, ⟨trivial, keep u0⟩, fun v hv => ?_⟩
    obtain ⟨u, hu, hK⟩ := h4 v hv
    have huu : u = u0 := by
      have q1 := hu w0 hwj
      have q2 := hu0 w0 hwj
      cases hr : (execOp a.eval oj).run P w0 with
      | ok n w' =>
        rw [hr] at q1 q2
        rcases inert_run (pure_inert hpj) hr with ⟨x, rfl⟩ | rfl
        · simp only [Oper.quietUpon] at q1 q2; exact q1.2.symm.trans q2.2
        · simp only [Oper.quietUpon] at q1 q2; first | exact q1.2.symm.trans q2.2 | exact q1.2.trans q2.2.symm | exact q1.1.trans q2.1.symm
      | halt x w' => rw [hr] at q1; simp only [Oper.quietUpon] at q1
    subst huu
    rw [← Act.put_comm a v u h2]
    exact hK
  · rename_i hw
    refine ⟨⟨trivial, keep _⟩, fun v hv => ?_⟩
    have h4 := h v hv
    rw [wanted_put oj a oi.dst v h1] at h4
    simp only [hw] at h4
    rw [← Act.put_comm a v undef h2]
    exact h4

theorem wpAnyC_first_q {Q : Kt} {i : Nat} {oi : Oper} {v : Value} (hi : ops[i]? = some oi) (hsel : ∀ (j : Nat) (o : Oper) cs b, ops[j]? = some o → o.op ≠ .select cs b) :
    ∀ (fuel : Nat) (listed : Array Bool) (F : World → Prop) (a : Act),
      (∀ j oj, ops[j]? = some oj → j ≠ i → listed.getD j true = false → (∀ e ∈ oj.after, Region.binds md e = true → e.on ≠ i) → oi.apart ops oj = true) →
      i ∈ Region.ready md ops listed → YC P ops i C Z E oi v a →
      wpAnyC P md ops C Z E m Q fuel (listed.setIfInBounds i true) F (a.put oi.dst v) → wpAnyC P md ops C Z E m Q (fuel + 1) listed F a := by
  intro fuel
  induction fuel with
  | zero =>
    intro listed F a _ hr hy H
    refine ⟨fun h => (by rw [h] at hr; cases hr), fun j hj => ?_⟩
    by_cases hji : j = i
    · subst hji; exact hy.cOp hi H
    · have := ready_mono hj hji
      rw [H.1] at this
      cases this
  | succ fuel ih =>
    intro listed F a hfree hr hy H
    refine ⟨fun h => (by rw [h] at hr; cases hr), fun j hj => ?_⟩
    by_cases hji : j = i
    · subst hji; exact hy.cOp hi H
    · have h1 := H.2 j (ready_mono hj hji)
      obtain ⟨hjun, oj, hoj, hall⟩ := mem_ready.1 hj
      have hnot : ∀ e ∈ oj.after, Region.binds md e = true → e.on ≠ i := fun e he hb heq => by
        have h1 := getD_ft (hall e he hb)
        have h0 := (mem_ready.1 hr).1
        rw [heq, h0] at h1
        cases h1
      have h2 := cOp_put hoj (hfree j oj hoj hji hjun hnot) (fun cs b => hsel i oi cs b hi) (fun cs b => hsel j oj cs b hoj) hy h1
      have hfree' : ∀ k ok, ops[k]? = some ok → k ≠ i → (listed.setIfInBounds j true).getD k true = false →
          (∀ e ∈ ok.after, Region.binds md e = true → e.on ≠ i) → oi.apart ops ok = true := fun k ok hk hki hun hno => by
        refine hfree k ok hk hki ?_ hno
        by_cases hjk : j = k
        · subst hjk; exact hjun
        · rw [getD_set_ne true hjk] at hun; exact hun
      refine cOp_mono (fun F' a' h3 => ih (listed.setIfInBounds j true) F' a' hfree' (ready_mono hr (Ne.symm hji)) h3.1 ?_) h2
      rw [Array.setIfInBounds_comm _ _ hji]
      exact h3.2
theorem wpAnyC_first_n {Q : Kt} (hQ : Anti Q) {i : Nat} {oi : Oper} {Φ : Value → World → Prop} (hi : ops[i]? = some oi) (hpi : pureOp oi = false) (hsel : ∀ (j : Nat) (o : Oper) cs b, ops[j]? = some o → o.op ≠ .select cs b) (L0 : Array Bool) {F : World → Prop} {w0 : World} (hC0 : C w0) (hf0 : F w0) (hiE : i ≤ m → i ∈ E)
    (hz0 : ∀ L : Array Bool, Closed md ops L → (∀ j, L0.getD j true = true → L.getD j true = true) → ∀ j, L.getD j true = false → j ∈ E → Z w0)
    (hfree : ∀ L : Array Bool, Closed md ops L → (∀ j, L0.getD j true = true → L.getD j true = true) → L.getD i true = false → ∀ j oj, ops[j]? = some oj → j ≠ i → j ∈ Region.ready md ops L → oi.apart ops oj = true ∧ pureOp oj = true) :
    ∀ (fuel : Nat) (listed : Array Bool) (a : Act),
      Closed md ops listed → (∀ j, L0.getD j true = true → listed.getD j true = true) →
      i ∈ Region.ready md ops listed → Region.wanted oi (yielded ops a.tmps) = true → Oper.nC P i oi a C Z E m F Φ →
      (∀ v, PosC C Z i m Φ v → wpAnyC P md ops C Z E m Q fuel (listed.setIfInBounds i true) (Φ v) (a.put oi.dst v)) → wpAnyC P md ops C Z E m Q (fuel + 1) listed F a := by
  intro fuel
  induction fuel with
  | zero =>
    intro listed a hcl hlo hr hw hn H
    refine ⟨fun h => (by rw [h] at hr; cases hr), fun j hj => ?_⟩
    by_cases hji : j = i
    · subst hji
      unfold cOp
      simp only [hi, hw, hpi, if_true]
      exact ⟨hiE, Φ, hn, H⟩
    · have := ready_mono hj hji
      have hd0 : Dc C Z E i w0 := ⟨hC0, hz0 listed hcl hlo i (mem_ready.1 hr).1⟩
      obtain ⟨v0, w1, _, hC1, hZ1, hΦ1⟩ := hn w0 hd0 hf0
      rw [(H v0 ⟨w1, hC1, fun him => hZ1 (Nat.ne_of_lt him) (hd0.2 (hiE (Nat.le_of_lt him))), hΦ1⟩).1] at this
      cases this
  | succ fuel ih =>
    intro listed a hcl hlo hr hw hn H
    refine ⟨fun h => (by rw [h] at hr; cases hr), fun j hj => ?_⟩
    by_cases hji : j = i
    · subst hji
      unfold cOp
      simp only [hi, hw, hpi, if_true]
      exact ⟨hiE, Φ, hn, H⟩
    · have h1 := fun v hv => (H v hv).2 j (ready_mono hj hji)
      obtain ⟨hjun, oj, hoj, hall⟩ := mem_ready.1 hj
      obtain ⟨hap, hpj⟩ := hfree listed hcl hlo (mem_ready.1 hr).1 j oj hoj hji hj
      have h2 := cOp_put_n hoj hap hpj (fun cs b => hsel i oi cs b hi) (fun cs b => hsel j oj cs b hoj) (wpAnyC_anti hQ fuel _) ⟨hC0, hz0 listed hcl hlo i (mem_ready.1 hr).1⟩ hf0 ⟨hC0, hz0 listed hcl hlo j hjun⟩ hiE hw hn h1
      refine cOp_mono (fun F' a' h3 => ?_) h2
      obtain ⟨⟨rfl, hw', hn'⟩, hK⟩ := h3
      refine ih (listed.setIfInBounds j true) a' (hcl.set hj) (fun x hx => getD_set_mono j (hlo x hx)) (ready_mono hr (Ne.symm hji)) hw' hn' (fun v hv => ?_)
      rw [Array.setIfInBounds_comm _ _ hji]
      exact hK v hv

-- the walk in the text's own order
def wpChn (P : Program) (ops : Array Oper) (C Z : World → Prop) (E : List Nat) (m : Nat) (Q : Kt) : Nat → List Oper → Kt
  | _, [], F, a => Q F a
  | k, o :: rest, F, a => if Region.wanted o (yielded ops a.tmps) then
      if pureOp o then ∃ v, Oper.qC P k o a C Z E v ∧ wpChn P ops C Z E m Q (k + 1) rest F (a.put o.dst v)
      else ∃ Φ, Oper.nC P k o a C Z E m F Φ ∧ ∀ v, PosC C Z k m Φ v → wpChn P ops C Z E m Q (k + 1) rest (Φ v) (a.put o.dst v)
    else wpChn P ops C Z E m Q (k + 1) rest F (a.put o.dst undef)
-- those that are not pure wait for one another; up to m they are all early
def descP (md : Region.Mode) : List Nat → Nat → List Oper → Bool
  | _, _, [] => true
  | S, k, y :: rest => if (waitL md y).any (fun e => S.contains e) then descP md (k :: S) (k + 1) rest else pureOp y && descP md S (k + 1) rest
def okC (md : Region.Mode) (E : List Nat) (m : Nat) : Nat → List Oper → Bool
  | _, [] => true
  | k, x :: rest => (pureOp x || (descP md [k] (k + 1) rest && (decide (m < k) || E.contains k))) && okC md E m (k + 1) rest
theorem descP_sound {L : Array Bool} (hcl : Closed md ops L) : ∀ (l : List Oper) (S : List Nat) (k : Nat), descP md S k l = true → (∀ j, l[j]? = ops[k + j]?) → (∀ x ∈ S, L.getD x true = false) → ∀ (j : Nat) (oj : Oper), k ≤ j → ops[j]? = some oj → j ∈ Region.ready md ops L → pureOp oj = true
  | [], S, k, _, hl, _, j, oj, hj, ho, _ => by
    have := hl (j - k)
    rw [show k + (j - k) = j by omega, ho] at this
    simp at this
  | y :: l, S, k, h, hl, hS, j, oj, hj, ho, hr => by
    have h0 : ops[k]? = some y := by simpa using (hl 0).symm
    have hl' : ∀ j, l[j]? = ops[k + 1 + j]? := fun j => by have := hl (j + 1); simpa [Nat.add_assoc, Nat.add_comm 1 j] using this
    unfold descP at h
    by_cases hw : (waitL md y).any (fun e => S.contains e) = true
    · rw [if_pos hw] at h
      obtain ⟨e0, he0, hin0⟩ := List.any_eq_true.1 hw
      obtain ⟨e, he, hb, hon⟩ := mem_waitL.1 he0
      have hun : L.getD e.on true = false := by rw [hon]; exact hS e0 (by simpa using hin0)
      by_cases hjk : j = k
      · subst hjk
        rw [h0] at ho
        injection ho with ho
        subst ho
        obtain ⟨_, o, ho, hall⟩ := mem_ready.1 hr
        rw [h0] at ho
        injection ho with ho
        subst ho
        have := getD_ft (hall e he hb)
        rw [hun] at this; cases this
      · refine descP_sound hcl l (k :: S) (k + 1) h hl' (fun x hx => ?_) j oj (by omega) ho hr
        rcases List.mem_cons.1 hx with rfl | hx
        · cases hb2 : L.getD x true with
          | false => rfl
          | true => have := hcl x y h0 hb2 e he hb; rw [hun] at this; cases this
        · exact hS x hx
    · rw [if_neg hw, Bool.and_eq_true] at h
      by_cases hjk : j = k
      · subst hjk
        rw [h0] at ho
        injection ho with ho
        subst ho
        exact h.1
      · exact descP_sound hcl l S (k + 1) h.2 hl' hS j oj (by omega) ho hr
theorem wpAnyC_lex {Q : Kt} (hQ : Anti Q) (hs : Region.noSelect ops = true) (hE : EarlyOk md ops E m) (hEm : ∀ x ∈ E, x ≤ m) :
    ∀ (l : List Oper) (k : Nat) (listed : Array Bool) (F : World → Prop) (a : Act), (∀ j, l[j]? = ops[k + j]?) → okC md E m k l = true → Closed md ops listed → (∀ j, j < k → listed.getD j true = true) → (∃ w, C w ∧ F w ∧ (k ≤ m → Z w)) →
    Region.lexFrom md ops l.length k listed = true → wpChn P ops C Z E m Q k l F a → wpAnyC P md ops C Z E m Q l.length listed F a
  | [], _, _, _, _, _, _, _, _, _, hB, h => ⟨by simpa [Region.lexFrom] using hB, h⟩
  | o :: l, k, listed, F, a, hl, hok, hcl, hlt, hex, hB, h => by
    have h0 : ops[k]? = some o := by simpa using (hl 0).symm
    simp only [List.length_cons, Region.lexFrom, Bool.and_eq_true] at hB
    obtain ⟨⟨hr, hf⟩, hB'⟩ := hB
    have hl' : ∀ j, l[j]? = ops[k + 1 + j]? := fun j => by have := hl (j + 1); simpa [Nat.add_assoc, Nat.add_comm 1 j] using this
    have hlt' : ∀ j, j < k + 1 → (listed.setIfInBounds k true).getD j true = true := fun j hj => by
      by_cases hjk : k = j
      · subst hjk; exact getD_set_true listed k
      · rw [getD_set_ne true hjk]; exact hlt j (by omega)
    have hrk : k ∈ Region.ready md ops listed := by simpa using hr
    simp only [okC, Bool.and_eq_true, Bool.or_eq_true] at hok
    obtain ⟨hok1, hok2⟩ := hok
    obtain ⟨w0, hC0, hF0, hZ0⟩ := hex
    unfold wpChn at h
    by_cases hw : Region.wanted o (yielded ops a.tmps) = true
    · rw [if_pos hw] at h
      by_cases hp : pureOp o = true
      · rw [if_pos hp] at h
        obtain ⟨v, hq, hK⟩ := h
        exact wpAnyC_first_q h0 (Region.noSelect_spec hs) l.length listed F a (Region.free_spec h0 hf) hrk (.inl ⟨hw, hp, hq⟩) (wpAnyC_lex hQ hs hE hEm l (k + 1) _ _ _ hl' hok2 (hcl.set hrk) hlt' ⟨w0, hC0, hF0, fun h => hZ0 (by omega)⟩ hB' hK)
      · have hpf : pureOp o = false := by simpa using hp
        rw [if_neg hp] at h
        obtain ⟨Φ, hn, hK⟩ := h
        rcases hok1 with hh | ⟨hd, hme⟩
        · exact absurd hh hp
        have hkE : k ≤ m → k ∈ E := fun hkm => by
          rcases hme with h | h
          · have := of_decide_eq_true h; omega
          · simpa using h
        have hz0 : ∀ L : Array Bool, Closed md ops L → (∀ j, listed.getD j true = true → L.getD j true = true) → ∀ j, L.getD j true = false → j ∈ E → Z w0 := fun L hL hLlo j hj hjE => by
          refine hZ0 ?_
          have hmun : L.getD m true = false := by
            cases hb : L.getD m true with
            | false => rfl
            | true => have := hE L hL hb j hjE; rw [hj] at this; cases this
          rcases Nat.lt_or_ge m k with h | h
          · have := hLlo m (hlt m h); rw [hmun] at this; cases this
          · exact h
        refine wpAnyC_first_n hQ h0 hpf (Region.noSelect_spec hs) listed hC0 hF0 hkE hz0 (fun L hL hLlo hLk j oj hoj hjk hjr => ?_) l.length listed a hcl (fun _ h => h) hrk hw hn (fun v hv => wpAnyC_lex hQ hs hE hEm l (k + 1) _ _ _ hl' hok2 (hcl.set hrk) hlt' ?_ hB' (hK v hv))
        · obtain ⟨hjun, oj', hoj', hall⟩ := mem_ready.1 hjr
          rw [hoj] at hoj'
          injection hoj' with hoj'
          subst hoj'
          have hlj : listed.getD j true = false := by
            cases hb : listed.getD j true with
            | false => rfl
            | true => rw [hLlo j hb] at hjun; cases hjun
          have hkj : k < j := by
            rcases Nat.lt_or_ge j k with h | h
            · rw [hlt j h] at hlj; cases hlj
            · omega
          exact ⟨Region.free_spec h0 hf j oj hoj hjk hlj (fun e he hb he2 => by have := getD_ft (hall e he hb); rw [he2, hLk] at this; cases this), descP_sound hL l [k] (k + 1) hd hl' (fun x hx => by rw [List.mem_singleton.1 hx]; exact hLk) j oj (by omega) hoj hjr⟩
        · obtain ⟨w1, hC1, hZ1, hΦ1⟩ := hv
          exact ⟨w1, hC1, hΦ1, fun h => hZ1 (by omega)⟩
    · rw [if_neg hw] at h
      exact wpAnyC_first_q h0 (Region.noSelect_spec hs) l.length listed F a (Region.free_spec h0 hf) hrk (.inr ⟨by simpa using hw, rfl⟩) (wpAnyC_lex hQ hs hE hEm l (k + 1) _ _ _ hl' hok2 (hcl.set hrk) hlt' ⟨w0, hC0, hF0, fun h => hZ0 (by omega)⟩ hB' h)
theorem early_ok (l : List Oper) : EarlyOk md l.toArray (early md l m) m := fun L hL hm x hx => by
  refine anc_sound hL (numL 0 l).reverse [m] (fun p hp => ?_) (fun y hy => by rw [List.mem_singleton.1 hy]; exact hm) x hx
  exact numL_at (ops := l.toArray) l 0 (fun j => by simp) p (List.mem_reverse.1 hp)
-- the region's law: block b holds cs till operation m has stored into it
theorem wp_region_chn (b : Nat) (T : TypeId) (cs : Array Value) (m : Nat) {Q : Exit → Act → World → Prop} {a : Act} {id : Nat} {w : World} {l : List Oper} (hm : P.follows .mixedOrders = true) (hB : Region.lexB .any l.toArray = true) (hI : okC .any (early .any l m) m 0 l = true) (hEm : (early .any l m).all (fun x => decide (x ≤ m)) = true) (hZ : Blk w b T cs)
    (h : wpChn P l.toArray (fun w' => w.grownBy w' (some b)) (fun w' => Blk w' b T cs) (early .any l m) m (fun F a' => ∀ w', w.grownBy w' (some b) → F w' → Q .normal a' w') 0 l (fun w' => w' = w.drew) a) : (Code.region id l.toArray true).wp P Q a w := by
  simp only [Region.lexB, Bool.and_eq_true] at hB
  have hA : Anti (fun F a' => ∀ w', w.grownBy w' (some b) → F w' → Q .normal a' w') := fun F F' a hF h w' hC hF' => h w' hC (hF w' hF')
  have hCd : w.grownBy w.drew (some b) := only_of (rf w).drew
  have hcl0 : Closed .any l.toArray (Array.replicate l.length false) := fun x ox hx hl => absurd hl (getD_rep (by simpa using (Array.getElem?_eq_some_iff.1 hx).1))
  refine wp_region_any hm (wpAny_of_chn (C := fun w' => w.grownBy w' (some b)) (Z := fun w' => Blk w' b T cs) (E := early .any l m) (m := m) (Q := fun F a' => ∀ w', w.grownBy w' (some b) → F w' → Q .normal a' w') (fun F a w hC hF h => h w hC hF) (early_ok l) _ _ (fun w' => w' = w.drew) _ _ hCd rfl ?_ (fun _ => hZ.nx (rf w).drew) ?_)
  · simpa using hcl0
  have := wpAnyC_lex (P := P) (C := fun w' => w.grownBy w' (some b)) (Z := fun w' => Blk w' b T cs) (E := early .any l m) (m := m) (md := .any) hA hB.1 (early_ok l) (fun x hx => of_decide_eq_true (List.all_eq_true.1 hEm x hx)) l 0 (Array.replicate l.length false) (fun w' => w' = w.drew) a (fun j => by simp) hI hcl0 (fun j hj => by omega) ⟨w.drew, hCd, rfl, fun _ => hZ.nx (rf w).drew⟩ (by simpa using hB.2) h
  simpa using this

-- the steps
structure Gz (W : World) (b : Nat) (T : TypeId) (cs : Array Value) where
  w : World
  h : W.grownBy w (some b)
  z : Blk w b T cs
section
variable {W : World} {b : Nat} {T : TypeId} {cs : Array Value} {k : Nat} {o : Oper} {a : Act} {rest : List Oper} {F : World → Prop} {Q : Exit → Act → World → Prop}
abbrev Cw (P : Program) (ops : Array Oper) (W : World) (b : Nat) (T : TypeId) (cs : Array Value) (E : List Nat) (m : Nat) (Q : Exit → Act → World → Prop) : Nat → List Oper → Kt :=
  wpChn P ops (fun w' => W.grownBy w' (some b)) (fun w' => Blk w' b T cs) E m (fun F a' => ∀ w', W.grownBy w' (some b) → F w' → Q .normal a' w')
theorem chn_anti {l : List Oper} : ∀ (l : List Oper) (k : Nat) (F F' : World → Prop) (a : Act), (∀ w, F' w → F w) → Cw P ops W b T cs E m Q k l F a → Cw P ops W b T cs E m Q k l F' a
  | [], k, F, F', a, hF, h => fun w hC hf => h w hC (hF w hf)
  | o :: l, k, F, F', a, hF, h => by
    unfold Cw wpChn at *
    split
    · rename_i hw
      simp only [hw, if_true] at h
      split
      · rename_i hp
        simp only [hp, if_true] at h
        obtain ⟨v, h1, h2⟩ := h
        exact ⟨v, h1, chn_anti (l := l) l _ _ _ _ hF h2⟩
      · rename_i hp
        simp only [hp] at h
        obtain ⟨Φ, h1, h2⟩ := h
        exact ⟨Φ, fun w hD hw => h1 w hD (hF w hw), h2⟩
    · rename_i hw
      simp only [hw] at h
      exact chn_anti (l := l) l _ _ _ _ hF h
theorem chn_nil (h : ∀ w', W.grownBy w' (some b) → F w' → Q .normal a w') : Cw P ops W b T cs E m Q k [] F a := h
theorem chn_early (hw : Region.wanted o (yielded ops a.tmps) = true) (hp : pureOp o = true) (hk : E.contains k = true) (h : ∀ K : Act → Prop, (∀ a, Cw P ops W b T cs E m Q (k + 1) rest F a → K a) → o.quiet P a (fun w' => ∃ x : Gz W b T cs, w' = x.w) K) : Cw P ops W b T cs E m Q k (o :: rest) F a := by
  unfold Cw wpChn
  rw [if_pos hw, if_pos hp]
  obtain ⟨v, h1, h2⟩ := h _ (fun _ h => h)
  refine ⟨v, fun w hD => ?_, h2⟩
  have h3 := h1 w ⟨⟨w, hD.1, hD.2 (by simpa using hk)⟩, rfl⟩
  unfold Oper.quietAt at h3
  cases hr : (execOp a.eval o).run P w with
  | ok n w' =>
    rw [hr] at h3
    rcases inert_run (pure_inert hp) hr with ⟨x, rfl⟩ | rfl
    · exact h3
    · exact h3
  | halt x w' => rw [hr] at h3; exact h3
theorem chn_late (hw : Region.wanted o (yielded ops a.tmps) = true) (hp : pureOp o = true) (h : ∀ K : Act → Prop, (∀ a, Cw P ops W b T cs E m Q (k + 1) rest F a → K a) → o.quiet P a (fun w' => ∃ x : Gw W b, w' = x.w) K) : Cw P ops W b T cs E m Q k (o :: rest) F a := by
  unfold Cw wpChn
  rw [if_pos hw, if_pos hp]
  obtain ⟨v, h1, h2⟩ := h _ (fun _ h => h)
  refine ⟨v, fun w hD => ?_, h2⟩
  have h3 := h1 w ⟨⟨w, hD.1⟩, rfl⟩
  unfold Oper.quietAt at h3
  cases hr : (execOp a.eval o).run P w with
  | ok n w' =>
    rw [hr] at h3
    rcases inert_run (pure_inert hp) hr with ⟨x, rfl⟩ | rfl
    · exact h3
    · exact h3
  | halt x w' => rw [hr] at h3; exact h3
theorem chn_news (Φ : Value → World → Prop) (hw : Region.wanted o (yielded ops a.tmps) = true) (hp : pureOp o = false) (hn : Oper.nC P k o a (fun w' => W.grownBy w' (some b)) (fun w' => Blk w' b T cs) E m F Φ)
    (h : ∀ v, (∃ w, W.grownBy w (some b) ∧ Φ v w) → Cw P ops W b T cs E m Q (k + 1) rest (Φ v) (a.put o.dst v)) : Cw P ops W b T cs E m Q k (o :: rest) F a := by
  unfold Cw wpChn
  rw [if_pos hw, if_neg (by rw [hp]; decide)]
  exact ⟨Φ, hn, fun v ⟨w, h1, _, h2⟩ => h v ⟨w, h1, h2⟩⟩
-- a literal of no rows
theorem chn_lit0 (hw : Region.wanted o (yielded ops a.tmps) = true) (t e : TypeId) (ho : o.op = .buildSlice t 0 #[]) (hrun : ∀ w : World, (Instr.buildSlice t 0 #[]).run P w = .ok (.slice (some ⟨w.heap.size, 0, none⟩) 0 0) (w.alloc (.cells #[] e))) (hkm : k ≠ m) (hb : b < W.heap.size) (size : Nat)
    (h : ∀ v : Value, (∃ A c, v = .slice A 0 c) → Cw P ops W b T cs E m Q (k + 1) rest (fun w' => w'.ownsRow W.heap.size e size v 0 []) (a.put o.dst v)) : Cw P ops W b T cs E m Q k (o :: rest) F a := by
  refine chn_news (fun v w' => (∃ A c, v = .slice A 0 c) ∧ w'.ownsRow W.heap.size e size v 0 []) hw (by unfold pureOp; rw [ho]) (fun w hD hf => ?_) (fun v hv => ?_)
  · refine ⟨.slice (some ⟨w.heap.size, 0, none⟩) 0 0, w.alloc (.cells #[] e), .inl ?_, only_trans hD.1 (only_of (al (rf w) _)), fun _ hz => hz.nx (al (rf w) _), ⟨_, _, rfl⟩, ?_⟩
    · unfold execOp
      simp only [ho, List.map_toArray, List.map_nil, Sem.run_bind, Sem.run_pure, hrun, Result.andThen_ok]
    · exact own_lit w #[] 0 rfl hD.1.size (by decide) (by simp)
  · obtain ⟨w, _, hv2, _⟩ := hv
    exact chn_anti (l := rest) rest _ _ _ _ (fun w h => h.2) (h v hv2)
theorem chn_app {TS e : TypeId} {size bytes : Nat} {z : Value} (S : SliceTy P TS e size bytes z) (hw : Region.wanted o (yielded ops a.tmps) = true) (s x : Operand)
    (ho : o.op = .call { callee := .builtin .append, args := #[s, x], argTypes := #[TS, TS] }) (hkm : k ≠ m) (hkE : E.contains k = true) (hb : b < W.heap.size)
    (v : Value) (n : Nat) (xs : List Value) (hs : a.eval s = v) (hF : ∀ w, F w → w.ownsRow W.heap.size e size v n xs)
    (A : Option Addr) (j c : Nat) (news : List Value) (hx : a.eval x = .slice A j c) (hr : ∀ y : Gz W b T cs, Reads y.w y.w.heap.size size A j news) (h1 : ∀ u ∈ news, u.oneCell' = true) (hlen : n + j ≤ 140737488355328) (hbytes : (n + j) * bytes ≤ 140737488355328)
    (n' : Nat) (hn' : n + j = n') (xs' : List Value) (hx' : xs ++ news = xs')
    (h : ∀ v' : Value, (∃ A c, v' = .slice A n' c) → Cw P ops W b T cs E m Q (k + 1) rest (fun w' => w'.ownsRow W.heap.size e size v' n' xs') (a.put o.dst v')) : Cw P ops W b T cs E m Q k (o :: rest) F a := by
  subst hn' hx'
  refine chn_news (fun v w' => w'.ownsRow W.heap.size e size v (n + j) (xs ++ news)) hw (by unfold pureOp; rw [ho]) (fun w hD hf => ?_) (fun v' hv => ?_)
  · have hz : Blk w b T cs := hD.2 (by simpa using hkE)
    have hown := hF w hf
    obtain ⟨i, hi, hz0, hz1, hz2⟩ := info_parts S.hi
    obtain ⟨v', w', hrun, h2, h3, _⟩ := run_append_any (P := P) w W.heap.size TS o.type e i z size bytes S.ht hi hz0 hz1 hz2 S.hz S.hs v n xs hown w.heap.size A j c news (hr ⟨w, hD.1, hz⟩) h1 (by unfold maxLen; omega) hbytes hD.1.size
    have hne : v.ownBlock ≠ some b := fun e => by have := (hown.lt b e).1; omega
    refine ⟨v', w', .inl ?_, ?_, fun _ hz => hz.grown h3 (fun e => hne e.symm), h2⟩
    · unfold execOp
      simp only [ho, resolve, invoke, builtin, Sem.run_bind, Sem.run_pure, Result.andThen_ok, List.map_toArray, List.map_cons, List.map_nil, hs, hx, hrun]
    · exact ⟨h3.os.trans hD.1.os, h3.tape.trans hD.1.tape, h3.output.trans hD.1.output, Nat.le_trans hD.1.size h3.size, fun i hi hib => (h3.block i (Nat.lt_of_lt_of_le hi hD.1.size) (fun e => by have := (hown.lt i e.symm).1; omega)).trans (hD.1.block i hi hib)⟩
  · obtain ⟨w, _, h2⟩ := hv
    exact h v' (own_slice h2)
theorem chn_store (hw : Region.wanted o (yielded ops a.tmps) = true) (ty : TypeId) (x y : Operand) (ho : o.op = .store ty x y) (hkm : k = m) (hkE : E.contains k = true) (off : Nat) (u : Value)
    (hx : a.eval x = .pointer (some ⟨b, off, none⟩)) (hy : a.eval y = u) (old : Value) (hold : cs[off]? = some old) (hrun : ∀ w : World, w.cell? ⟨b, off, none⟩ = some old → w.frozen? ⟨b, off, none⟩ = false → (Instr.storeAt ty (.pointer (some ⟨b, off, none⟩)) u).run P w = .ok () (w.setCell ⟨b, off, none⟩ u))
    (h : Cw P ops W b T cs E m Q (k + 1) rest (fun w' => ∃ w, F w ∧ W.grownBy w (some b) ∧ Blk w b T cs ∧ w' = w.setCell ⟨b, off, none⟩ u) (a.put o.dst undef)) : Cw P ops W b T cs E m Q k (o :: rest) F a := by
  refine chn_news (fun v w' => v = undef ∧ ∃ w, F w ∧ W.grownBy w (some b) ∧ Blk w b T cs ∧ w' = w.setCell ⟨b, off, none⟩ u) hw (by unfold pureOp; rw [ho]) (fun w hD hf => ?_) (fun v hv => ?_)
  · have hz : Blk w b T cs := hD.2 (by simpa using hkE)
    refine ⟨undef, w.setCell ⟨b, off, none⟩ u, .inr ⟨?_, rfl⟩, only_setCell (p := ⟨b, off, none⟩) hD.1 (.inl rfl) _, fun hne => absurd hkm hne, rfl, w, hf, hD.1, hz, rfl⟩
    unfold execOp
    simp only [ho, hx, hy, Sem.run_bind, Sem.run_pure, hrun w ((hz.cell off).trans hold) (hz.frozen off), Result.andThen_ok]
  · obtain ⟨_, _, rfl, _⟩ := hv
    exact chn_anti (l := rest) rest _ _ _ _ (fun w h => h.2) h
theorem quiet_cutL {C : World → Prop} {K : Act → Prop} (size : Nat) (t : TypeId) (x lo : Operand) (ho : o.op = .slice t x (some lo) none none) (ht : P.underlying t = some (.slice (P.elem t))) (hsz : ∀ w, (sizeOf (P.elem t)).run P w = .ok size w)
    (A : Option Addr) (n c l : Nat) (kl : IntKind) (hx : a.eval x = .slice A n c) (hlo : a.eval lo = .int kl l) (h1 : l ≤ n) (h2 : n ≤ c) (AX : Option Addr) (hAX : AX = if c = l then A else A.map (·.add (l * size))) (hk : K (a.put o.dst (.slice AX (n - l) (c - l)))) : o.quiet P a C K := by
  subst hAX
  refine ⟨_, fun w _ => ?_, hk⟩
  unfold Oper.quietAt execOp
  have e : sliced A (l : Int).toNat n c size = .slice (if c = l then A else A.map (·.add (l * size))) (n - l) (c - l) := by simp [sliced]
  simp only [ho, Option.map, hx, hlo, Go.run_sliceAt_slice w t _ _ _ _ ht, Go.run_slice_l w t A n c ht kl (l : Int) (by omega) (by omega), hsz, Sem.run_bind, Sem.run_pure, Result.andThen_ok]
  rw [e]
  exact ⟨rfl, rfl⟩
end
end
end Go.Proofs.Ytmboadgmhafedaa
