/-
  Names, in plain Lean: a text cut at its dots; its bytes; these are read as it.
-/
import Derived.Test.YtpfkmmmlocmakaaDoorNmU
import Derived.Lib.SplitLaws
import Derived.Lib.IndexBytes
set_option linter.unusedVariables false
namespace Go.Proofs.YtpfkmmmlocmakaaDoor
open Go.RowKit

def spl : List UInt8 → List (List UInt8)
  | [] => [[]]
  | c :: r => if c = 46 then [] :: spl r else match spl r with
    | [] => [[c]]
    | h :: t => (c :: h) :: t
theorem spl_ne : ∀ s, spl s ≠ []
  | [] => by simp [spl]
  | c :: r => by
    unfold spl
    split
    · simp
    · split <;> simp
theorem spl_dot (r : List UInt8) : spl (46 :: r) = [] :: spl r := by rw [spl, if_pos rfl]
theorem spl_char (c : UInt8) (r h : List UInt8) (t : List (List UInt8)) (hc : c ≠ 46) (hr : spl r = h :: t) : spl (c :: r) = (c :: h) :: t := by rw [spl, if_neg hc, hr]
theorem index_dot (s : List UInt8) : Lib.index s [46] = Lib.indexByte s 46 := Lib.index_one s 46
theorem splitK_spl : ∀ s : List UInt8, Lib.splitK [46] 0 (s.count 46) s = spl s
  | [] => rfl
  | c :: r => by
    have ih := splitK_spl r
    by_cases hc : c = 46
    · subst hc
      rw [List.count_cons_self, Lib.splitK, index_dot, spl_dot]
      have e : Lib.indexByte (46 :: r) 46 = 0 := by rw [Lib.indexByte, if_pos (by simp)]
      rw [e, if_neg (by decide)]
      rw [← ih]; simp
    · rw [List.count_cons_of_ne hc]
      cases hk : r.count 46 with
      | zero =>
        rw [hk] at ih
        have h1 : spl r = r :: [] := ih.symm
        rw [spl_char c r r [] hc h1]; rfl
      | succ k =>
        rw [hk] at ih
        rw [Lib.splitK, index_dot] at ih ⊢
        have e : Lib.indexByte (c :: r) 46 = if Lib.indexByte r 46 == -1 then -1 else Lib.indexByte r 46 + 1 := by
          rw [Lib.indexByte, if_neg (by simp [hc])]
        rw [e]
        have hge := Lib.indexByte_ge r 46
        by_cases hi : Lib.indexByte r 46 = -1
        · rw [if_pos (beq_iff_eq.2 hi)] at ih
          rw [if_pos (beq_iff_eq.2 hi), if_pos (by decide)]
          exact (spl_char c r r [] hc ih.symm).symm
        · have hb : ¬ (Lib.indexByte r 46 == -1) = true := fun h => hi (beq_iff_eq.1 h)
          rw [if_neg hb] at ih
          rw [if_neg hb, if_neg (by rw [beq_iff_eq]; omega)]
          rw [spl_char c r _ _ hc ih.symm]
          have e2 : (Lib.indexByte r 46 + 1).toNat = (Lib.indexByte r 46).toNat + 1 := by omega
          rw [e2]
          simp
-- joined again
theorem spl_dots : ∀ s : List UInt8, ∀ x ∈ spl s, (46 : UInt8) ∉ x
  | [], x, hx => by simp [spl] at hx; subst hx; simp
  | c :: r, x, hx => by
    by_cases hc : c = 46
    · subst hc
      rw [spl_dot] at hx
      rcases List.mem_cons.1 hx with rfl | h
      · simp
      · exact spl_dots r x h
    · cases hr : spl r with
      | nil => exact absurd hr (spl_ne r)
      | cons h t =>
        rw [spl_char c r h t hc hr] at hx
        rcases List.mem_cons.1 hx with rfl | h2
        · intro hm
          rcases List.mem_cons.1 hm with e | e
          · exact hc e.symm
          · exact spl_dots r h (by rw [hr]; exact List.mem_cons_self) e
        · exact spl_dots r x (by rw [hr]; exact List.mem_cons_of_mem _ h2)
theorem jn_cons (x : List UInt8) (l : List (List UInt8)) (h : l ≠ []) : jn (x :: l) = x ++ 46 :: jn l := by
  cases l with
  | nil => exact absurd rfl h
  | cons y r =>
    unfold jn
    rw [Lib.join_cons, Lib.join_cons]
    have e : Lib.joinTail [46] (y :: r) = (46 :: y) ++ Lib.joinTail [46] r := by simp [Lib.joinTail]
    rw [e]; simp
theorem jn_spl : ∀ s : List UInt8, jn (spl s) = s
  | [] => rfl
  | c :: r => by
    have ih := jn_spl r
    by_cases hc : c = 46
    · subst hc
      rw [spl_dot, jn_cons _ _ (spl_ne r), ih]; rfl
    · cases hr : spl r with
      | nil => exact absurd hr (spl_ne r)
      | cons h t =>
        rw [spl_char c r h t hc hr]
        rw [hr] at ih
        by_cases ht : t = []
        · subst ht; rw [jn_one] at ih ⊢; rw [ih]
        · rw [jn_cons _ _ ht] at ih ⊢; rw [List.cons_append, ih]
theorem szL_spl (s : List UInt8) : szL (spl s) = s.length + 1 := by
  rw [← jn_len _ (spl_ne s), jn_spl]
-- a name's labels, whether it is one, and its bytes
def okL (x : List UInt8) : Bool := decide (1 ≤ x.length) && decide (x.length ≤ 63)
def lbs (s : List UInt8) : List (List UInt8) := if s = [] then [] else spl s
def isN (s : List UInt8) : Bool := decide (s = []) || (decide (s.length ≤ 253) && (spl s).all okL)
def pkl (ls : List (List UInt8)) : List UInt8 := (ls.map fun x => UInt8.ofNat x.length :: x).flatten
def pk (ls : List (List UInt8)) : List UInt8 := pkl ls ++ [0]
theorem pkl_app (ls : List (List UInt8)) (x : List UInt8) : pkl (ls ++ [x]) = pkl ls ++ (UInt8.ofNat x.length :: x) := by simp [pkl]
theorem pkl_len (ls : List (List UInt8)) : (pkl ls).length = szL ls := by
  induction ls with
  | nil => rfl
  | cons y r ih =>
    have h2 : szL (y :: r) = y.length + 1 + szL r := by simp [szL]
    have h3 : pkl (y :: r) = (UInt8.ofNat y.length :: y) ++ pkl r := by simp [pkl]
    rw [h3, List.length_append, ih, h2]; simp
theorem unp_pk : ∀ (ls acc : List (List UInt8)) (P : List UInt8) (bg : Nat), (∀ x ∈ ls, (46 : UInt8) ∉ x ∧ 1 ≤ x.length ∧ x.length ≤ 63) → szL acc + szL ls ≤ 254 →
    unp (P ++ pk ls) P.length bg (-1) acc = (acc ++ ls, (((P ++ pk ls).length : Nat) : Int), 0)
  | [], acc, P, bg, _, _ => by
    have hl : (P ++ pk []).length = P.length + 1 := by simp [pk, pkl]
    have h0 : (P ++ pk [])[P.length]'(by omega) = 0 := by simp [pk, pkl]
    rw [unp_end _ _ _ _ _ (by omega) (by rw [h0]; rfl), if_pos (by omega), hl]
    simp
  | x :: r, acc, P, bg, hok, hsz => by
    obtain ⟨x46, x1, x63⟩ := hok x List.mem_cons_self
    have hs2 : szL (x :: r) = x.length + 1 + szL r := by simp [szL]
    have hp : pk (x :: r) = (UInt8.ofNat x.length :: x) ++ pk r := by simp [pk, pkl]
    have hl : (P ++ pk (x :: r)).length = P.length + 1 + x.length + (pk r).length := by rw [hp]; simp; omega
    have hpr : 0 < (pk r).length := by simp [pk]
    have hn : (UInt8.ofNat x.length).toNat = x.length := by rw [UInt8.toNat_ofNat']; omega
    have h0 : ((P ++ pk (x :: r))[P.length]'(by omega)).toNat = x.length := by
      have : (P ++ pk (x :: r))[P.length]'(by omega) = UInt8.ofNat x.length := by simp [hp]
      rw [this, hn]
    have hx : ((P ++ pk (x :: r)).drop (P.length + 1)).take ((P ++ pk (x :: r))[P.length]'(by omega)).toNat = x := by
      rw [h0, hp]; simp
    rw [unp_label _ _ _ _ _ (by omega) (by omega) (by omega) (by omega) (by
      rw [hx, h0]; rintro (h | h)
      · exact x46 h
      · omega), hx, h0]
    have e : P ++ pk (x :: r) = (P ++ (UInt8.ofNat x.length :: x)) ++ pk r := by rw [hp, List.append_assoc]
    have e2 : P.length + 1 + x.length = (P ++ (UInt8.ofNat x.length :: x)).length := by simp; omega
    rw [e, e2, unp_pk r (acc ++ [x]) (P ++ (UInt8.ofNat x.length :: x)) bg (fun y hy => hok y (List.mem_cons_of_mem _ hy)) (by rw [szL_app]; omega)]
    simp
theorem unp_isN (s : List UInt8) (h : isN s = true) : unp (pk (lbs s)) 0 0 (-1) [] = (lbs s, (((pk (lbs s)).length : Nat) : Int), 0) ∧ jn (lbs s) = s := by
  unfold isN lbs at *
  by_cases h0 : s = []
  · subst h0
    refine ⟨?_, rfl⟩
    have := unp_pk [] [] [] 0 (by simp) (by simp [szL])
    simpa using this
  · rw [if_neg h0]
    simp only [h0, decide_false, Bool.false_or, Bool.and_eq_true, decide_eq_true_eq, List.all_eq_true] at h
    obtain ⟨h1, h2⟩ := h
    refine ⟨?_, jn_spl s⟩
    have := unp_pk (spl s) [] [] 0 (fun x hx => by
      have h3 := h2 x hx
      simp only [okL, Bool.and_eq_true, decide_eq_true_eq] at h3
      exact ⟨spl_dots s x hx, h3.1, h3.2⟩) (by rw [szL_spl]; simp [szL]; omega)
    simpa using this
end Go.Proofs.YtpfkmmmlocmakaaDoor
