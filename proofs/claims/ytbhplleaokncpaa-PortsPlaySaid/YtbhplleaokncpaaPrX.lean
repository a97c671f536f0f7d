/-
  Ports: the program's ports and the reference's answer alike (plain).
-/
import Derived.Test.YtbhplleaokncpaaPrW
set_option linter.unusedVariables false
namespace Go.Proofs.Ytbhplleaokncpaa
open Go.RowKit

def toP (q : Rp) : Pl := if q.pp = 0 then ⟨q.id, q.a, q.port, false, 0, 0⟩ else ⟨q.id, q.a, q.port, true, q.peer, q.pp⟩
theorem toP_id (q : Rp) : (toP q).id = q.id := by unfold toP; split <;> rfl
theorem toP_a (q : Rp) : (toP q).a = q.a := by unfold toP; split <;> rfl
theorem toP_port (q : Rp) : (toP q).port = q.port := by unfold toP; split <;> rfl
theorem ids_toP (L : List Rp) (x : Int) : ids (L.map toP) x = L.any (fun p => p.id == x) := by
  unfold ids
  rw [List.any_map]
  congr 1
  funext q
  simp [toP_id]
theorem ids_spot (L : List Rp) (x : Int) : ids (L.map toP) x = decide (0 ≤ spotR L x) := by
  rw [ids_toP]
  by_cases h : spotR L x < 0
  · have h1 : L.any (fun p => p.id == x) = false := by
      unfold spotR at h
      cases hf : L.findIdx? (fun p => p.id == x) with
      | none =>
        rw [List.findIdx?_eq_none_iff] at hf
        rw [List.any_eq_false]
        intro p hp
        rw [hf p hp]; decide
      | some i => rw [hf] at h; exact absurd h (by show ¬ ((i : Nat) : Int) < 0; omega)
    rw [h1]; symm; rw [decide_eq_false_iff_not]; omega
  · obtain ⟨k, q, hk, hq⟩ := spot_at h
    have h1 : L.any (fun p => p.id == x) = true := by
      rw [List.any_eq_true]
      unfold spotR at hk h
      cases hf : L.findIdx? (fun p => p.id == x) with
      | none => rw [hf] at h; exact absurd (show (-1 : Int) < 0 by decide) h
      | some i =>
        obtain ⟨hi, hp, _⟩ := List.findIdx?_eq_some_iff_getElem.1 hf
        exact ⟨L[i], List.getElem_mem hi, hp⟩
    rw [h1]; symm; rw [decide_eq_true_eq]; omega
theorem spot_id {L : List Rp} {x : Int} {k : Nat} {q : Rp} (h : spotR L x = (k : Nat)) (hq : L[k]? = some q) : q.id = x := by
  unfold spotR at h
  cases hf : L.findIdx? (fun p => p.id == x) with
  | none => rw [hf] at h; exact absurd h (by show ¬ (-1 : Int) = _; omega)
  | some i =>
    rw [hf] at h
    have e : i = k := by have : ((i : Nat) : Int) = k := h; omega
    subst e
    obtain ⟨hi, hp, _⟩ := List.findIdx?_eq_some_iff_getElem.1 hf
    rw [List.getElem?_eq_getElem hi] at hq
    injection hq with hq
    subst hq
    simpa using hp
theorem clash_toP (a port : Int) (q : Rp) : clash a port (toP q) = clashR a port q := by
  unfold clash clashR
  rw [toP_a, toP_port]
theorem free_taken (L : List Rp) (a port : Int) : freeR (L.map toP) a port = !takenR L a port := by
  unfold freeR takenR
  rw [List.all_map, List.all_eq_not_any_not]
  congr 2
  funext q
  simp [clash_toP]
theorem newP_toP (id a port : Int) : toP (newR id a port) = newP id a port := by unfold toP newR newP; rw [if_pos rfl]
theorem may_toP (L : List Rp) (id : Int) : mayR (L.map toP) id = if id < 0 then 1 else if 0 ≤ spotR L id then 8 else if 64 ≤ L.length then 6 else 0 := by
  unfold mayR
  rw [ids_spot, List.length_map]
  simp only [decide_eq_true_eq]
theorem bind_eq (L : List Rp) (id a port : Int) : (bindRR L id a port).1 = (bindR (L.map toP) id a port).1 ∧ (bindRR L id a port).2.map toP = (bindR (L.map toP) id a port).2 := by
  unfold bindRR bindR
  rw [may_toP, free_taken]
  by_cases h1 : port < 1 ∨ 65535 < port
  · rw [if_pos h1, if_pos (by omega)]; exact ⟨rfl, rfl⟩
  · rw [if_neg h1]
    by_cases h2 : id < 0
    · rw [if_pos (.inl h2), if_pos h2, if_pos (by decide)]; exact ⟨rfl, rfl⟩
    · rw [if_neg (by omega), if_neg h2]
      by_cases h3 : 0 ≤ spotR L id
      · rw [if_pos h3, if_pos h3, if_pos (by decide)]; exact ⟨rfl, rfl⟩
      · rw [if_neg h3, if_neg h3]
        by_cases h4 : 64 ≤ L.length
        · rw [if_pos h4, if_pos h4, if_pos (by decide)]; exact ⟨rfl, rfl⟩
        · rw [if_neg h4, if_neg h4]
          cases ht : takenR L a port <;> simp [newP_toP]
theorem bind_len {L : List Rp} {id a port : Int} (h : L.length ≤ 64) : (bindRR L id a port).2.length ≤ 64 := by
  unfold bindRR
  split
  · exact h
  split
  · exact h
  split
  · exact h
  split
  · exact h
  · simp; omega
theorem pick_eq (L : List Rp) (id a draw : Int) : (rpickR L id a draw).1 = (pickR (L.map toP) id a draw).1 ∧ (rpickR L id a draw).2.map toP = (pickR (L.map toP) id a draw).2 := by
  have hk : pickK (L.map toP) a (max 0 draw) = rpickK L a (max 0 draw) := by
    unfold pickK rpickK
    congr 1
    funext k
    exact free_taken L a _
  unfold rpickR pickR
  rw [may_toP, hk]
  by_cases h2 : id < 0
  · rw [if_pos h2, if_pos h2, if_pos (by decide)]; exact ⟨rfl, rfl⟩
  · rw [if_neg h2, if_neg h2]
    by_cases h3 : 0 ≤ spotR L id
    · rw [if_pos h3, if_pos h3, if_pos (by decide)]; exact ⟨rfl, rfl⟩
    · rw [if_neg h3, if_neg h3]
      by_cases h4 : 64 ≤ L.length
      · rw [if_pos h4, if_pos h4, if_pos (by decide)]; exact ⟨rfl, rfl⟩
      · rw [if_neg h4, if_neg h4, if_neg (by decide)]
        cases rpickK L a (max 0 draw) with
        | none => exact ⟨rfl, rfl⟩
        | some k => exact ⟨rfl, by simp [newP_toP]⟩
theorem pick_len {L : List Rp} {id a draw : Int} (h : L.length ≤ 64) : (rpickR L id a draw).2.length ≤ 64 := by
  unfold rpickR
  split
  · exact h
  split
  · exact h
  split
  · exact h
  · cases rpickK L a (max 0 draw) with
    | none => exact h
    | some k => simp; omega
def Uq (L : List Rp) : Prop := ∀ (i j : Nat) (p q : Rp), L[i]? = some p → L[j]? = some q → p.id = q.id → i = j
theorem con_eq {L : List Rp} (hu : Uq L) (id a port : Int) : (rconR L id a port).1 = (conR (L.map toP) id a port).1 ∧ (rconR L id a port).2.map toP = (conR (L.map toP) id a port).2 := by
  unfold rconR conR
  rw [ids_spot]
  by_cases h1 : spotR L id < 0
  · rw [if_pos h1, show decide (0 ≤ spotR L id) = false by rw [decide_eq_false_iff_not]; omega]; exact ⟨rfl, rfl⟩
  · rw [if_neg h1, show decide (0 ≤ spotR L id) = true by rw [decide_eq_true_eq]; omega, if_neg (by decide : ¬ true = false)]
    obtain ⟨k, q, hk, hq⟩ := spot_at h1
    by_cases h2 : port < 0 ∨ 65535 < port
    · rw [if_pos h2, if_pos h2]; exact ⟨rfl, rfl⟩
    · rw [if_neg h2, if_neg h2, hk]
      have hkn : ((k : Nat) : Int).toNat = k := by omega
      rw [hkn, modify_set _ hq]
      have hid := spot_id hk hq
      have key : ∀ (al : Bool) (fr of : Int), toP { q with peer := a, pp := port } = { toP q with alone := al, fr := fr, of := of } → (L.set k { q with peer := a, pp := port }).map toP = (L.map toP).map (setP id al fr of) := by
        intro al fr of he
        apply List.ext_getElem?
        intro j
        rw [List.getElem?_map, List.getElem?_map, List.getElem?_map, List.getElem?_set]
        by_cases hjk : k = j
        · subst hjk
          have hlt := (List.getElem?_eq_some_iff.1 hq).1
          rw [if_pos rfl, if_pos hlt, hq]
          simp only [Option.map_some, Option.some.injEq]
          rw [he]
          unfold setP
          rw [if_pos (by rw [toP_id]; exact hid)]
        · rw [if_neg hjk]
          cases hj : L[j]? with
          | none => rfl
          | some p =>
            simp only [Option.map_some, Option.some.injEq]
            unfold setP
            rw [if_neg (by rw [toP_id]; intro e; exact hjk (hu k j q p hq hj (by rw [hid, e])))]
      by_cases h3 : port = 0
      · rw [if_pos h3]
        refine ⟨rfl, key false 0 0 ?_⟩
        subst h3
        unfold toP
        rw [if_pos rfl]
        split <;> rfl
      · rw [if_neg h3]
        refine ⟨rfl, key true a port ?_⟩
        unfold toP
        rw [if_neg h3]
        split <;> rfl
theorem con_len {L : List Rp} {id a port : Int} (h : L.length ≤ 64) : (rconR L id a port).2.length ≤ 64 := by
  unfold rconR
  split
  · exact h
  split
  · exact h
  · simpa using h
theorem del_eq {L : List Rp} (hu : Uq L) (id : Int) : (rdelR L id).1 = (delR (L.map toP) id).1 ∧ (rdelR L id).2.map toP = (delR (L.map toP) id).2 := by
  unfold rdelR delR
  rw [ids_spot]
  by_cases h1 : spotR L id < 0
  · rw [if_pos h1, if_neg (by rw [decide_eq_true_eq]; omega)]; exact ⟨rfl, rfl⟩
  · rw [if_neg h1, if_pos (by rw [decide_eq_true_eq]; omega)]
    obtain ⟨k, q, hk, hq⟩ := spot_at h1
    have hid := spot_id hk hq
    refine ⟨rfl, ?_⟩
    rw [hk]
    show (L.eraseIdx k).map toP = _
    rw [List.eraseIdx_eq_take_drop_succ]
    have hlt := (List.getElem?_eq_some_iff.1 hq).1
    have hsp : L = L.take k ++ q :: L.drop (k + 1) := by
      have h2 := List.getElem_cons_drop hlt
      have h3 := (List.getElem?_eq_some_iff.1 hq).2
      rw [h3] at h2
      rw [h2, List.take_append_drop]
    have f1 : ∀ p ∈ L.take k, (toP p).id ≠ id := fun p hp e => by
      obtain ⟨j, hj⟩ := List.getElem?_of_mem hp
      rw [List.getElem?_take] at hj
      split at hj
      · have := hu j k p q hj hq (by rw [← toP_id, e, hid]); omega
      · cases hj
    have f2 : ∀ p ∈ L.drop (k + 1), (toP p).id ≠ id := fun p hp e => by
      obtain ⟨j, hj⟩ := List.getElem?_of_mem hp
      rw [List.getElem?_drop] at hj
      have := hu (k + 1 + j) k p q hj hq (by rw [← toP_id, e, hid]); omega
    conv => rhs; rw [hsp]
    rw [List.map_append, List.map_append, List.map_cons, List.filter_append, List.filter_cons_of_neg (by simp [toP_id, hid])]
    congr 1
    · symm; rw [List.filter_eq_self]
      intro p hp
      obtain ⟨r, hr, rfl⟩ := List.mem_map.1 hp
      simpa using f1 r hr
    · symm; rw [List.filter_eq_self]
      intro p hp
      obtain ⟨r, hr, rfl⟩ := List.mem_map.1 hp
      simpa using f2 r hr
theorem del_len {L : List Rp} {id : Int} (h : L.length ≤ 64) : (rdelR L id).2.length ≤ 64 := by
  unfold rdelR
  split
  · exact h
  · show (L.eraseIdx _).length ≤ 64
    exact Nat.le_trans (List.length_eraseIdx_le ..) h
theorem hears_worth (q : Rp) (d : Dg) : hearsR (toP q) d = decide (0 ≤ worthR q d) := by
  rw [Bool.eq_iff_iff]
  unfold hearsR toP worthR
  by_cases h : q.pp = 0
  · simp only [h, if_true]
    simp only [Bool.and_eq_true, Bool.or_eq_true, beq_iff_eq, Bool.not_false, Bool.true_or, and_true, decide_eq_true_eq]
    (repeat' split) <;> omega
  · simp only [h, if_false]
    simp only [Bool.and_eq_true, Bool.or_eq_true, beq_iff_eq, Bool.not_true, Bool.false_eq_true, false_or, decide_eq_true_eq]
    (repeat' split) <;> omega
theorem bet_worth (p q : Rp) (d : Dg) (hp : 0 ≤ worthR p d) (hq : 0 ≤ worthR q d) : betI (toP p) (toP q) d < 0 ↔ (worthR q d < worthR p d ∨ (worthR q d = worthR p d ∧ p.id < q.id)) := by
  rw [bet_iff, toP_id, toP_id, toP_a, toP_a]
  have e1 : ∀ q : Rp, oneI (toP q).alone = if q.pp = 0 then 0 else 1 := fun q => by unfold toP oneI; split <;> rfl
  have e2 : ∀ q : Rp, oneI (q.a == d.to_) = if q.a = d.to_ then 1 else 0 := fun q => by unfold oneI; simp
  rw [e1, e1, e2, e2]
  unfold worthR at *
  (repeat' split at hp) <;> (repeat' split at hq) <;> (repeat' split) <;> omega
theorem find_eq {L : List Rp} {d : Dg} {v v' : Value} (h : rfindV L d v) (h' : FindR (L.map toP) d v') : v = v' := by
  rcases h with ⟨rfl, h1⟩ | ⟨q, rfl, ⟨⟨j, hj, _⟩, h0, h1⟩⟩
  · rcases h' with ⟨rfl, _⟩ | ⟨p, rfl, hp, hh, _⟩
    · rfl
    · obtain ⟨r, hr, rfl⟩ := List.mem_map.1 hp
      rw [hears_worth, decide_eq_true_eq] at hh
      have := h1 r hr
      omega
  · have hqm : q ∈ L := List.mem_of_getElem? hj
    rcases h' with ⟨rfl, h2⟩ | ⟨p, rfl, hp, hh, h2⟩
    · have := h2 (toP q) (List.mem_map_of_mem hqm)
      rw [hears_worth, decide_eq_false_iff_not] at this
      omega
    · obtain ⟨r, hr, rfl⟩ := List.mem_map.1 hp
      rw [hears_worth, decide_eq_true_eq] at hh
      have h3 := h2 (toP q) (List.mem_map_of_mem hqm) (by rw [hears_worth, decide_eq_true_eq]; exact h0)
      rw [bet_worth q r d h0 hh] at h3
      obtain ⟨i, hi⟩ := List.getElem?_of_mem hr
      have h4 := h1 i r hi trivial
      rw [toP_id]
      have : q.id = r.id := by omega
      rw [this]
end Go.Proofs.Ytbhplleaokncpaa
