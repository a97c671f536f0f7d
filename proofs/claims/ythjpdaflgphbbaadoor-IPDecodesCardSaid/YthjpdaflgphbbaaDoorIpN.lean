/-
  IP, in plain Lean: a number of an address as text, and an address's text.
-/
import Derived.Test.YthjpdaflgphbbaaDoorW
import Derived.Lib.SplitLaws
import Derived.Lib.IndexBytes
import Derived.Lib.AtoiAll
import Derived.Lib.ItoaNum
set_option linter.unusedVariables false
namespace Go.Proofs.YthjpdaflgphbbaaDoor
open Go.RowKit

-- decimal digits, spelled out below a thousand
def dd (n : Nat) : List UInt8 := if n < 10 then [UInt8.ofNat (48 + n)] else if n < 100 then [UInt8.ofNat (48 + n / 10), UInt8.ofNat (48 + n % 10)] else [UInt8.ofNat (48 + n / 10 / 10), UInt8.ofNat (48 + n / 10 % 10), UInt8.ofNat (48 + n % 10)]
theorem dec_small {n : Nat} (h : n < 10) : Lib.decDigits n = [UInt8.ofNat (48 + n)] := by rw [Lib.decDigits, dif_pos h]
theorem dec_step {n : Nat} (h : ¬ n < 10) : Lib.decDigits n = Lib.decDigits (n / 10) ++ [UInt8.ofNat (48 + n % 10)] := by rw [Lib.decDigits, dif_neg h]
theorem dec_dd {n : Nat} (h : n < 1000) : Lib.decDigits n = dd n := by
  unfold dd
  by_cases h1 : n < 10
  · rw [if_pos h1, dec_small h1]
  · rw [if_neg h1]
    by_cases h2 : n < 100
    · rw [if_pos h2, dec_step h1, dec_small (by omega)]; rfl
    · rw [if_neg h2, dec_step h1, dec_step (by omega), dec_small (by omega)]; rfl
-- the reference's reading of one number: any: how many digits stand ahead, v: their value
def isD (c : UInt8) : Bool := decide (48 ≤ c.toNat) && decide (c.toNat ≤ 57)
def ra : Nat → Nat → List UInt8 → Option Nat
  | any, v, [] => if any = 0 then none else some v
  | any, v, c :: r => if isD c = false ∨ (0 < any ∧ v = 0) then none else if 255 < v * 10 + c.toNat - 48 then none else ra (any + 1) (v * 10 + c.toNat - 48) r
theorem ra_dd : ∀ n, n < 256 → ra 0 0 (dd n) = some n := by decide +kernel
theorem atoi_dd : ∀ n, n < 256 → Lib.atoiAll (dd n) = .ok (n : Int) := by decide +kernel
theorem ra_from : ∀ (r : List UInt8) (k v n : Nat), v ≤ 255 → ra (k + 1) v r = some n → n ≤ 255 ∧ Lib.decDigits n = Lib.decDigits v ++ r
  | [], k, v, n, hv, h => by
    rw [ra, if_neg (by omega)] at h
    injection h with h; subst h
    exact ⟨hv, by simp⟩
  | c :: r, k, v, n, hv, h => by
    rw [ra] at h
    split at h
    · cases h
    · rename_i h1
      split at h
      · cases h
      · rename_i h2
        have hd : isD c = true := by cases hc : isD c <;> simp_all
        simp only [isD, Bool.and_eq_true, decide_eq_true_eq] at hd
        have hv0 : v ≠ 0 := fun e => h1 (.inr ⟨by omega, e⟩)
        obtain ⟨e1, e2⟩ := ra_from r (k + 1) _ n (by omega) h
        refine ⟨e1, ?_⟩
        rw [e2, dec_step (n := v * 10 + c.toNat - 48) (by omega)]
        have q1 : (v * 10 + c.toNat - 48) / 10 = v := by omega
        have q2 : UInt8.ofNat (48 + (v * 10 + c.toNat - 48) % 10) = c := by
          have : 48 + (v * 10 + c.toNat - 48) % 10 = c.toNat := by omega
          rw [this]; simp
        rw [q1, q2, List.append_assoc]; rfl
theorem ra_iff (x : List UInt8) (n : Nat) : ra 0 0 x = some n ↔ n ≤ 255 ∧ x = Lib.decDigits n := by
  constructor
  · intro h
    cases x with
    | nil => simp [ra] at h
    | cons c r =>
      rw [ra] at h
      split at h
      · cases h
      · rename_i h1
        split at h
        · cases h
        · rename_i h2
          have hd : isD c = true := by cases hc : isD c <;> simp_all
          simp only [isD, Bool.and_eq_true, decide_eq_true_eq] at hd
          obtain ⟨e1, e2⟩ := ra_from r 0 _ n (by omega) h
          refine ⟨e1, ?_⟩
          rw [e2, dec_small (n := 0 * 10 + c.toNat - 48) (by omega)]
          have : 48 + (0 * 10 + c.toNat - 48) = c.toNat := by omega
          rw [this]; simp
  · rintro ⟨h1, rfl⟩
    rw [dec_dd (by omega)]
    exact ra_dd n (by omega)
-- the program's reading of one number
def pc (x : List UInt8) : Option Nat := match Lib.atoiAll x with
  | .ok v => if 0 ≤ v ∧ v ≤ 255 ∧ Lib.decDigits v.toNat = x then some v.toNat else none
  | _ => none
theorem pc_ra (x : List UInt8) : pc x = ra 0 0 x := by
  apply Option.ext
  intro n
  rw [ra_iff]
  unfold pc
  constructor
  · intro h
    split at h
    · split at h
      · rename_i v hv hc
        injection h with h
        subst h
        exact ⟨by omega, hc.2.2.symm⟩
      · cases h
    · cases h
  · rintro ⟨h1, rfl⟩
    have h2 : Lib.atoiAll (Lib.decDigits n) = .ok (n : Int) := by rw [dec_dd (by omega)]; exact atoi_dd n (by omega)
    rw [h2]
    simp only
    rw [if_pos ⟨by omega, by omega, by rw [Int.toNat_natCast]⟩, Int.toNat_natCast]
-- a text cut at its dots
def spl : List UInt8 → List (List UInt8)
  | [] => [[]]
  | c :: r => if c = 46 then [] :: spl r else match spl r with
    | [] => [[c]]
    | h :: t => (c :: h) :: t
theorem spl_ne : ∀ s, spl s ≠ []
  | [] => by simp [spl]
  | c :: r => by
    unfold spl
    split
    · simp
    · split <;> simp
theorem spl_dot (r : List UInt8) : spl (46 :: r) = [] :: spl r := by rw [spl, if_pos rfl]
theorem spl_char (c : UInt8) (r h : List UInt8) (t : List (List UInt8)) (hc : c ≠ 46) (hr : spl r = h :: t) : spl (c :: r) = (c :: h) :: t := by rw [spl, if_neg hc, hr]
theorem spl_len : ∀ s : List UInt8, (spl s).length = s.count 46 + 1
  | [] => rfl
  | c :: r => by
    have ih := spl_len r
    by_cases hc : c = 46
    · subst hc; rw [spl_dot, List.count_cons_self]; simp [ih]
    · rw [List.count_cons_of_ne hc]
      cases hr : spl r with
      | nil => exact absurd hr (spl_ne r)
      | cons h t => rw [spl_char c r h t hc hr]; rw [hr] at ih; simpa using ih
theorem index_dot (s : List UInt8) : Lib.index s [46] = Lib.indexByte s 46 := Lib.index_one s 46
theorem splitK_gen : ∀ (s : List UInt8) (k : Nat), (s.count 46 ≤ k → Lib.splitK [46] 0 k s = spl s) ∧ (k < s.count 46 → (Lib.splitK [46] 0 k s).length = k + 1)
  | [], k => ⟨fun _ => by cases k <;> rfl, fun h => by simp at h⟩
  | c :: r, k => by
    by_cases hc : c = 46
    · subst hc
      rw [List.count_cons_self, spl_dot]
      have e : Lib.indexByte (46 :: r) 46 = 0 := by rw [Lib.indexByte, if_pos (by simp)]
      cases k with
      | zero => exact ⟨fun h => by omega, fun _ => rfl⟩
      | succ k =>
        obtain ⟨i1, i2⟩ := splitK_gen r k
        rw [Lib.splitK, index_dot, e, if_neg (by decide)]
        refine ⟨fun h => ?_, fun h => ?_⟩
        · rw [← i1 (by omega)]; simp
        · have := i2 (by omega)
          simpa using this
    · rw [List.count_cons_of_ne hc]
      cases k with
      | zero =>
        obtain ⟨i1, _⟩ := splitK_gen r 0
        refine ⟨fun h => ?_, fun _ => rfl⟩
        have h1 : spl r = r :: [] := (i1 h).symm
        rw [spl_char c r r [] hc h1]; rfl
      | succ k =>
        obtain ⟨i1, i2⟩ := splitK_gen r (k + 1)
        rw [Lib.splitK, index_dot] at i1 i2 ⊢
        have e : Lib.indexByte (c :: r) 46 = if Lib.indexByte r 46 == -1 then -1 else Lib.indexByte r 46 + 1 := by
          rw [Lib.indexByte, if_neg (by simp [hc])]
        rw [e]
        have hge := Lib.indexByte_ge r 46
        by_cases hi : Lib.indexByte r 46 = -1
        · rw [if_pos (beq_iff_eq.2 hi)] at i1 i2
          rw [if_pos (beq_iff_eq.2 hi), if_pos (by decide)]
          refine ⟨fun h => (spl_char c r r [] hc (i1 h).symm).symm, fun h => ?_⟩
          have := i2 h
          simp at this
        · have hb : ¬ (Lib.indexByte r 46 == -1) = true := fun h => hi (beq_iff_eq.1 h)
          rw [if_neg hb] at i1 i2
          rw [if_neg hb, if_neg (by rw [beq_iff_eq]; omega)]
          have e2 : (Lib.indexByte r 46 + 1).toNat = (Lib.indexByte r 46).toNat + 1 := by omega
          refine ⟨fun h => ?_, fun h => ?_⟩
          · rw [spl_char c r _ _ hc (i1 h).symm, e2]; simp
          · have := i2 h
            rw [e2]
            simpa using this
-- all numbers one behind the other
def pf : List (List UInt8) → Nat → Option Nat
  | [], a => some a
  | h :: t, a => match pc h with
    | none => none
    | some v => pf t (a * 256 + v)
def parseP (s : List UInt8) : Option Nat := if (spl s).length = 4 then pf (spl s) 0 else none
-- the reference's, sign by sign
def refP : Nat → Nat → Nat → Nat → List UInt8 → Option Nat
  | n, v, any, a, [] => if any = 0 ∨ n = 4 then none else if n + 1 ≠ 4 then none else some (a * 256 + v)
  | n, v, any, a, c :: r => if c = 46 then (if any = 0 ∨ n = 4 then none else refP (n + 1) 0 0 (a * 256 + v) r)
    else if isD c = false ∨ (0 < any ∧ v = 0) then none else if 255 < v * 10 + c.toNat - 48 then none else refP n (v * 10 + c.toNat - 48) (any + 1) a r
theorem refP_gen : ∀ (s : List UInt8) (n v any a : Nat), n ≤ 4 → refP n v any a s = (match spl s with
    | [] => none
    | h :: t => match ra any v h with
      | none => none
      | some x => if t.length + n + 1 = 4 then pf t (a * 256 + x) else none)
  | [], n, v, any, a, hn => by
    simp only [refP, spl, ra]
    by_cases h0 : any = 0
    · simp [h0]
    · simp only [h0, false_or, if_false, List.length_nil, Nat.zero_add, pf]
      by_cases h4 : n = 4
      · subst h4; simp
      · rw [if_neg h4]
        by_cases h3 : n + 1 = 4
        · simp [h3]
        · simp [h3]
  | c :: r, n, v, any, a, hn => by
    by_cases hc : c = 46
    · subst hc
      rw [spl_dot, refP, if_pos rfl]
      simp only [ra]
      by_cases h0 : any = 0
      · simp [h0]
      · simp only [h0, false_or, if_false]
        by_cases h4 : n = 4
        · subst h4
          rw [if_pos rfl, if_neg]
          cases hr : spl r with
          | nil => exact absurd hr (spl_ne r)
          | cons h t => simp
        · rw [if_neg h4, refP_gen r (n + 1) 0 0 (a * 256 + v) (by omega)]
          cases hr : spl r with
          | nil => exact absurd hr (spl_ne r)
          | cons h t =>
            simp only [List.length_cons, pf, pc_ra]
            cases hx : ra 0 0 h with
            | none => simp
            | some x =>
              simp only
              rw [show t.length + (n + 1) + 1 = t.length + 1 + n + 1 by omega]
    · obtain ⟨h, t, hr⟩ : ∃ h t, spl r = h :: t := by
        cases hr : spl r with
        | nil => exact absurd hr (spl_ne r)
        | cons h t => exact ⟨h, t, rfl⟩
      rw [spl_char c r h t hc hr, refP, if_neg hc]
      simp only [ra]
      split
      · rfl
      · split
        · rfl
        · rw [refP_gen r n _ (any + 1) a hn, hr]
theorem refP_parseP (s : List UInt8) : refP 0 0 0 0 s = parseP s := by
  rw [refP_gen s 0 0 0 0 (by omega)]
  unfold parseP
  cases hr : spl s with
  | nil => exact absurd hr (spl_ne s)
  | cons h t =>
    simp only [List.length_cons, pf, pc_ra]
    cases hx : ra 0 0 h with
    | none => simp
    | some x => simp
end Go.Proofs.YthjpdaflgphbbaaDoor
