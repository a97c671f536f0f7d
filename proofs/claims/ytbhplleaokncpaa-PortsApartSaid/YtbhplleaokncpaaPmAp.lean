/-
  Two that were given ports hear apart: what one hears by its address the other does not. No conditions.
-/
import Derived.Test.YtbhplleaokncpaaPmRo
set_option linter.unusedVariables false
namespace Go.Proofs.Ytbhplleaokncpaa
open Go.ChangeShapes Go.WideShapes Go.ChangeAt Go.RowKit

theorem bind_ok1 (S : List Pl) (id a port : Int) (h1 : 1 ≤ port) (h2 : port ≤ 65535) (hm : mayR S id = 0) (hf : freeR S a port = true) : bindR S id a port = (0, S ++ [newP id a port]) := by
  unfold bindR; rw [if_neg (by omega), if_neg (by rw [hm]; decide), if_neg (by rw [hf]; decide)]
theorem bind_use (S : List Pl) (id a port : Int) (h1 : 1 ≤ port) (h2 : port ≤ 65535) (hm : mayR S id = 0) (hf : freeR S a port = false) : bindR S id a port = (22, S) := by
  unfold bindR; rw [if_neg (by omega), if_neg (by rw [hm]; decide), if_pos hf]
theorem bind_bad (S : List Pl) (id a port : Int) (h : port < 1 ∨ 65535 < port) : bindR S id a port = (1, S) := by
  unfold bindR; rw [if_pos h]
theorem pick_ex {S : List Pl} {b d x y : Int} (hd : 0 ≤ d) (hf : ∀ n, n ≠ x → n ≠ y → freeR S b n = true) (hn : freeR S b x = false) (hn2 : freeR S b y = false) : ∃ k, pickK S b d = some k ∧ pickAt d k ≠ x ∧ pickAt d k ≠ y := by
  have e01 : pickAt d 0 ≠ pickAt d 1 := fun e => by have := pickAt_inj hd (i := 1) (j := 0) (by decide) (by decide) e; omega
  have e02 : pickAt d 0 ≠ pickAt d 2 := fun e => by have := pickAt_inj hd (i := 2) (j := 0) (by decide) (by decide) e; omega
  have e12 : pickAt d 1 ≠ pickAt d 2 := fun e => by have := pickAt_inj hd (i := 2) (j := 1) (by decide) (by decide) e; omega
  have key : ∃ k, k < 16384 ∧ freeR S b (pickAt d k) = true := by
    by_cases h0 : pickAt d 0 ≠ x ∧ pickAt d 0 ≠ y
    · exact ⟨0, by decide, hf _ h0.1 h0.2⟩
    · by_cases h1 : pickAt d 1 ≠ x ∧ pickAt d 1 ≠ y
      · exact ⟨1, by decide, hf _ h1.1 h1.2⟩
      · exact ⟨2, by decide, hf _ (by omega) (by omega)⟩
  obtain ⟨k, hk, hfk⟩ := key
  rcases hp : pickK S b d with _ | k'
  · have := List.find?_eq_none.1 hp k (by simpa using hk)
    rw [hfk] at this; simp at this
  · have h := List.find?_some hp
    exact ⟨k', rfl, (fun e => by rw [e, hn] at h; cases h), (fun e => by rw [e, hn2] at h; cases h)⟩
theorem pick_lo (d : Int) (k : Nat) : 49152 ≤ pickAt d k := by
  unfold pickAt
  have := Int.emod_nonneg (d % 16384 + k) (show (16384 : Int) ≠ 0 by decide)
  omega
def Meets (a b : Int) : Bool := a == b || a == 0 || b == 0
theorem free1 (a b port : Int) : freeR [newP 1 a port] b port = !(Meets a b) := by
  show (!(port == port && (a == b || a == 0 || b == 0)) && true) = _
  unfold Meets; simp
-- what the two picks come to
theorem apart_picks (a b port draw : Int) (S : List Pl) (hS : (Meets a b = true ∧ S = [newP 1 a port]) ∨ (Meets a b = false ∧ S = [newP 1 a port, newP 2 b port])) :
    ∃ n m, pickR S 3 b draw = ((n, 0), S ++ [newP 3 b n]) ∧ pickR (S ++ [newP 3 b n]) 4 b draw = ((m, 0), S ++ [newP 3 b n] ++ [newP 4 b m]) ∧ n ≠ port ∧ m ≠ port ∧ n ≠ m ∧ 49152 ≤ n ∧ 49152 ≤ m := by
  have hd0 : 0 ≤ max 0 draw := by omega
  have eqc : ∀ x y : Int, (x == y) = (y == x) := fun x y => by rw [Bool.eq_iff_iff, beq_iff_eq, beq_iff_eq]; exact ⟨Eq.symm, Eq.symm⟩
  have hf : ∀ n, freeR S b n = !(n == port) := by
    intro n
    rcases hS with ⟨hm, rfl⟩ | ⟨hm, rfl⟩
    · have hm' : (a == b || a == 0 || b == 0) = true := hm
      show (!(port == n && (a == b || a == 0 || b == 0)) && true) = !(n == port)
      rw [hm', eqc port n]; simp
    · have hm' : (a == b || a == 0 || b == 0) = false := hm
      show (!(port == n && (a == b || a == 0 || b == 0)) && (!(port == n && (b == b || b == 0 || b == 0)) && true)) = !(n == port)
      rw [hm', eqc port n]; simp
  have hmay : mayR S 3 = 0 := by
    rcases hS with ⟨_, rfl⟩ | ⟨_, rfl⟩ <;> rfl
  obtain ⟨k, hk, hk1, _⟩ := pick_ex (S := S) (b := b) (x := port) (y := port) hd0 (fun n h _ => by rw [hf]; simp [h]) (by rw [hf]; simp) (by rw [hf]; simp)
  have hf2 : ∀ n, freeR (S ++ [newP 3 b (pickAt (max 0 draw) k)]) b n = (!(n == port) && !(n == pickAt (max 0 draw) k)) := by
    intro n
    have h1 : S.all (fun p => !clash b n p) = !(n == port) := hf n
    show List.all (S ++ [newP 3 b (pickAt (max 0 draw) k)]) _ = _
    rw [List.all_append, h1]
    show (!(n == port) && (!(pickAt (max 0 draw) k == n && (b == b || b == 0 || b == 0)) && true)) = _
    rw [eqc (pickAt (max 0 draw) k) n]
    generalize pickAt (max 0 draw) k = z
    simp
  have hmay2 : mayR (S ++ [newP 3 b (pickAt (max 0 draw) k)]) 4 = 0 := by
    rcases hS with ⟨_, rfl⟩ | ⟨_, rfl⟩ <;> rfl
  obtain ⟨j, hj, hj1, hj2⟩ := pick_ex (S := S ++ [newP 3 b (pickAt (max 0 draw) k)]) (b := b) (x := port) (y := pickAt (max 0 draw) k) hd0 (fun n h h' => by rw [hf2]; simp [h, h']) (by rw [hf2]; simp) (by rw [hf2]; simp)
  exact ⟨_, _, pickR_some hmay rfl hk, pickR_some hmay2 rfl hj, hk1, hj1, fun e => hj2 e.symm, pick_lo _ _, pick_lo _ _⟩
theorem apart_find1 (a b port n m : Int) (S : List Pl) (hS : (Meets a b = true ∧ S = [newP 1 a port]) ∨ (Meets a b = false ∧ S = [newP 1 a port, newP 2 b port])) (h1 : n ≠ port) (h3 : n ≠ m) :
    ∀ v, FindR (S ++ [newP 3 b n] ++ [newP 4 b m]) (dg 0 0 b n) v → v = .tuple #[.int .i64 3, .bool true] := by
  refine find_one (newP 3 b n) (by simp) (by simp [hearsR, newP, dg]) (fun p hp hh => ?_)
  have h2 : port ≠ n := fun e => h1 e.symm
  have h4 : m ≠ n := fun e => h3 e.symm
  rcases hS with ⟨_, rfl⟩ | ⟨_, rfl⟩ <;> simp at hp
  · rcases hp with rfl | rfl | rfl
    · simp [hearsR, newP, dg, h2] at hh
    · rfl
    · simp [hearsR, newP, dg, h4] at hh
  · rcases hp with rfl | rfl | rfl | rfl
    · simp [hearsR, newP, dg, h2] at hh
    · simp [hearsR, newP, dg, h2] at hh
    · rfl
    · simp [hearsR, newP, dg, h4] at hh
theorem apart_find2 (a b port n m : Int) (S : List Pl) (hS : (Meets a b = true ∧ S = [newP 1 a port]) ∨ (Meets a b = false ∧ S = [newP 1 a port, newP 2 b port])) (h1 : n ≠ port) (h2 : m ≠ port) :
    ∀ v, FindR (S ++ [newP 3 b n] ++ [newP 4 b m]) (dg 0 0 a port) v → v = .tuple #[.int .i64 1, .bool true] := by
  refine find_one (newP 1 a port) (by rcases hS with ⟨_, rfl⟩ | ⟨_, rfl⟩ <;> simp) (by simp [hearsR, newP, dg]) (fun p hp hh => ?_)
  rcases hS with ⟨_, rfl⟩ | ⟨hm, rfl⟩ <;> simp at hp
  · rcases hp with rfl | rfl | rfl
    · rfl
    · simp [hearsR, newP, dg, h1] at hh
    · simp [hearsR, newP, dg, h2] at hh
  · rcases hp with rfl | rfl | rfl | rfl
    · rfl
    · unfold Meets at hm; simp [hearsR, newP, dg] at hh hm; omega
    · simp [hearsR, newP, dg, h1] at hh
    · simp [hearsR, newP, dg, h2] at hh
set_option maxRecDepth 100000 in
set_option maxHeartbeats 1600000 in
theorem portsApart_walk (a b port draw : Int) (w : World) :
    Calls Try.prog 3 #[.int .u32 a, .int .u32 b, .int .i64 port, .int .i64 draw] w fun e w' => e = .returned (.bool true) ∧ Below w.heap.size w w' := by
  have H0 := Lib.hid (Pw.new w)
  by_cases h1 : port < 1
  · have hb := Lib.hid (bind_bad [] 1 a port (.inl h1))
    go_enter Try.func3, Try.ntmps3
    go_wp2_with fail
    refine (bindK (S' := []) (r := 1) H0.out (by decide) (by decide) hb.out).mono ?_
    rintro e w1 ⟨rfl, h1'⟩
    have H1 := Lib.hid h1'; clear h1'
    go_wp2_with fail
    refine (known _).mono ?_
    rintro e w9 ⟨rfl, hb9⟩
    go_wp2
    go_ret
    exact ⟨rfl, nx H1.out.b hb9⟩
  by_cases h2 : 65535 < port
  · have hb := Lib.hid (bind_bad [] 1 a port (.inr h2))
    go_enter Try.func3, Try.ntmps3
    go_wp2_with fail
    refine (bindK (S' := []) (r := 1) H0.out (by decide) (by decide) hb.out).mono ?_
    rintro e w1 ⟨rfl, h1'⟩
    have H1 := Lib.hid h1'; clear h1'
    go_wp2_with fail
    refine (known _).mono ?_
    rintro e w9 ⟨rfl, hb9⟩
    go_wp2
    go_ret
    exact ⟨rfl, nx H1.out.b hb9⟩
  have h1 : 1 ≤ port := by omega
  have h2 : port ≤ 65535 := by omega
  have hb1 := Lib.hid (bind_ok1 [] 1 a port h1 h2 rfl rfl)
  by_cases c1 : a = b
  · have r1 : ((a : Int) == b) = true := by rw [beq_iff_eq]; exact c1
    have hm : Meets a b = true := by unfold Meets; rw [r1]; rfl
    clear c1
    obtain ⟨n, m, p3, p4, n1, n2, n3, n4, n5⟩ := apart_picks a b port draw [newP 1 a port] (.inl ⟨hm, rfl⟩)
    have hf1 := Lib.hid (apart_find1 a b port n m [newP 1 a port] (.inl ⟨hm, rfl⟩) n1 n3)
    have hf2 := Lib.hid (apart_find2 a b port n m [newP 1 a port] (.inl ⟨hm, rfl⟩) n1 n2)
    have hp3 := Lib.hid p3
    have hp4 := Lib.hid p4
    have q3 : ((n : Int) == m) = false := by rw [beq_eq_false_iff_ne]; exact n3
    have hb2 := Lib.hid (bind_use [newP 1 a port] 2 b port h1 h2 rfl (by rw [free1, hm]; rfl))
    clear p3 p4 n1 n2 n3 hm
    go_enter Try.func3, Try.ntmps3
    go_wp2_with fail
    refine (bindK (S' := [newP 1 a port]) (r := 0) H0.out (by decide) (by decide) hb1.out).mono ?_
    rintro e w1 ⟨rfl, h1'⟩
    have H1 := Lib.hid h1'; clear h1'
    go_wp2_with fail
    refine (bindK H1.out (by decide) (by simp) hb2.out).mono ?_
    rintro e w2 ⟨rfl, h2'⟩
    have H2 := Lib.hid h2'; clear h2'
    go_wp2_with fail
    refine (pickQ H2.out (by decide) (by simp) hp3.out).mono ?_
    rintro e w3 ⟨rfl, h3'⟩
    have H3 := Lib.hid h3'; clear h3'
    go_wp2_with fail
    refine (pickQ H3.out (by decide) (by simp) hp4.out).mono ?_
    rintro e w4 ⟨rfl, h4'⟩
    have H4 := Lib.hid h4'; clear h4'
    go_wp2_with fail
    refine (findK (d := dg 0 0 b n) H4.out hf1.out).mono ?_
    rintro e w5 ⟨rfl, h5'⟩
    have H5 := Lib.hid h5'; clear h5'
    go_wp2_with fail
    refine (findK (d := dg 0 0 a port) H5.out hf2.out).mono ?_
    rintro e w6 ⟨rfl, h6'⟩
    have H6 := Lib.hid h6'; clear h6'
    go_wp2_with fail
    refine (known _).mono ?_
    rintro e w9 ⟨rfl, hb9⟩
    go_wp2
    go_ret
    exact ⟨rfl, nx H6.out.b hb9⟩
  have r1 : ((a : Int) == b) = false := by rw [beq_eq_false_iff_ne]; exact c1
  by_cases c2 : a = 0
  · have r2 : ((a : Int) == 0) = true := by rw [beq_iff_eq]; exact c2
    have hm : Meets a b = true := by unfold Meets; rw [r1, r2]; rfl
    clear c1 c2
    obtain ⟨n, m, p3, p4, n1, n2, n3, n4, n5⟩ := apart_picks a b port draw [newP 1 a port] (.inl ⟨hm, rfl⟩)
    have hf1 := Lib.hid (apart_find1 a b port n m [newP 1 a port] (.inl ⟨hm, rfl⟩) n1 n3)
    have hf2 := Lib.hid (apart_find2 a b port n m [newP 1 a port] (.inl ⟨hm, rfl⟩) n1 n2)
    have hp3 := Lib.hid p3
    have hp4 := Lib.hid p4
    have q3 : ((n : Int) == m) = false := by rw [beq_eq_false_iff_ne]; exact n3
    have hb2 := Lib.hid (bind_use [newP 1 a port] 2 b port h1 h2 rfl (by rw [free1, hm]; rfl))
    clear p3 p4 n1 n2 n3 hm
    go_enter Try.func3, Try.ntmps3
    go_wp2_with fail
    refine (bindK (S' := [newP 1 a port]) (r := 0) H0.out (by decide) (by decide) hb1.out).mono ?_
    rintro e w1 ⟨rfl, h1'⟩
    have H1 := Lib.hid h1'; clear h1'
    go_wp2_with fail
    refine (bindK H1.out (by decide) (by simp) hb2.out).mono ?_
    rintro e w2 ⟨rfl, h2'⟩
    have H2 := Lib.hid h2'; clear h2'
    go_wp2_with fail
    refine (pickQ H2.out (by decide) (by simp) hp3.out).mono ?_
    rintro e w3 ⟨rfl, h3'⟩
    have H3 := Lib.hid h3'; clear h3'
    go_wp2_with fail
    refine (pickQ H3.out (by decide) (by simp) hp4.out).mono ?_
    rintro e w4 ⟨rfl, h4'⟩
    have H4 := Lib.hid h4'; clear h4'
    go_wp2_with fail
    refine (findK (d := dg 0 0 b n) H4.out hf1.out).mono ?_
    rintro e w5 ⟨rfl, h5'⟩
    have H5 := Lib.hid h5'; clear h5'
    go_wp2_with fail
    refine (findK (d := dg 0 0 a port) H5.out hf2.out).mono ?_
    rintro e w6 ⟨rfl, h6'⟩
    have H6 := Lib.hid h6'; clear h6'
    go_wp2_with fail
    refine (known _).mono ?_
    rintro e w9 ⟨rfl, hb9⟩
    go_wp2
    go_ret
    exact ⟨rfl, nx H6.out.b hb9⟩
  have r2 : ((a : Int) == 0) = false := by rw [beq_eq_false_iff_ne]; exact c2
  by_cases c3 : b = 0
  · have r3 : ((b : Int) == 0) = true := by rw [beq_iff_eq]; exact c3
    have hm : Meets a b = true := by unfold Meets; rw [r1, r2, r3]; rfl
    clear c1 c2 c3
    obtain ⟨n, m, p3, p4, n1, n2, n3, n4, n5⟩ := apart_picks a b port draw [newP 1 a port] (.inl ⟨hm, rfl⟩)
    have hf1 := Lib.hid (apart_find1 a b port n m [newP 1 a port] (.inl ⟨hm, rfl⟩) n1 n3)
    have hf2 := Lib.hid (apart_find2 a b port n m [newP 1 a port] (.inl ⟨hm, rfl⟩) n1 n2)
    have hp3 := Lib.hid p3
    have hp4 := Lib.hid p4
    have q3 : ((n : Int) == m) = false := by rw [beq_eq_false_iff_ne]; exact n3
    have hb2 := Lib.hid (bind_use [newP 1 a port] 2 b port h1 h2 rfl (by rw [free1, hm]; rfl))
    clear p3 p4 n1 n2 n3 hm
    go_enter Try.func3, Try.ntmps3
    go_wp2_with fail
    refine (bindK (S' := [newP 1 a port]) (r := 0) H0.out (by decide) (by decide) hb1.out).mono ?_
    rintro e w1 ⟨rfl, h1'⟩
    have H1 := Lib.hid h1'; clear h1'
    go_wp2_with fail
    refine (bindK H1.out (by decide) (by simp) hb2.out).mono ?_
    rintro e w2 ⟨rfl, h2'⟩
    have H2 := Lib.hid h2'; clear h2'
    go_wp2_with fail
    refine (pickQ H2.out (by decide) (by simp) hp3.out).mono ?_
    rintro e w3 ⟨rfl, h3'⟩
    have H3 := Lib.hid h3'; clear h3'
    go_wp2_with fail
    refine (pickQ H3.out (by decide) (by simp) hp4.out).mono ?_
    rintro e w4 ⟨rfl, h4'⟩
    have H4 := Lib.hid h4'; clear h4'
    go_wp2_with fail
    refine (findK (d := dg 0 0 b n) H4.out hf1.out).mono ?_
    rintro e w5 ⟨rfl, h5'⟩
    have H5 := Lib.hid h5'; clear h5'
    go_wp2_with fail
    refine (findK (d := dg 0 0 a port) H5.out hf2.out).mono ?_
    rintro e w6 ⟨rfl, h6'⟩
    have H6 := Lib.hid h6'; clear h6'
    go_wp2_with fail
    refine (known _).mono ?_
    rintro e w9 ⟨rfl, hb9⟩
    go_wp2
    go_ret
    exact ⟨rfl, nx H6.out.b hb9⟩
  have r3 : ((b : Int) == 0) = false := by rw [beq_eq_false_iff_ne]; exact c3
  have hm : Meets a b = false := by unfold Meets; rw [r1, r2, r3]; rfl
  clear c1 c2 c3
  obtain ⟨n, m, p3, p4, n1, n2, n3, n4, n5⟩ := apart_picks a b port draw [newP 1 a port, newP 2 b port] (.inr ⟨hm, rfl⟩)
  have hf1 := Lib.hid (apart_find1 a b port n m [newP 1 a port, newP 2 b port] (.inr ⟨hm, rfl⟩) n1 n3)
  have hf2 := Lib.hid (apart_find2 a b port n m [newP 1 a port, newP 2 b port] (.inr ⟨hm, rfl⟩) n1 n2)
  have hp3 := Lib.hid p3
  have hp4 := Lib.hid p4
  have q3 : ((n : Int) == m) = false := by rw [beq_eq_false_iff_ne]; exact n3
  have hb2 := Lib.hid (bind_ok1 [newP 1 a port] 2 b port h1 h2 rfl (by rw [free1, hm]; rfl))
  clear p3 p4 n1 n2 n3 hm
  go_enter Try.func3, Try.ntmps3
  go_wp2_with fail
  refine (bindK (S' := [newP 1 a port]) (r := 0) H0.out (by decide) (by decide) hb1.out).mono ?_
  rintro e w1 ⟨rfl, h1'⟩
  have H1 := Lib.hid h1'; clear h1'
  go_wp2_with fail
  refine (bindK H1.out (by decide) (by simp) hb2.out).mono ?_
  rintro e w2 ⟨rfl, h2'⟩
  have H2 := Lib.hid h2'; clear h2'
  go_wp2_with fail
  refine (pickQ H2.out (by decide) (by simp) hp3.out).mono ?_
  rintro e w3 ⟨rfl, h3'⟩
  have H3 := Lib.hid h3'; clear h3'
  go_wp2_with fail
  refine (pickQ H3.out (by decide) (by simp) hp4.out).mono ?_
  rintro e w4 ⟨rfl, h4'⟩
  have H4 := Lib.hid h4'; clear h4'
  go_wp2_with fail
  refine (findK (d := dg 0 0 b n) H4.out hf1.out).mono ?_
  rintro e w5 ⟨rfl, h5'⟩
  have H5 := Lib.hid h5'; clear h5'
  go_wp2_with fail
  refine (findK (d := dg 0 0 a port) H5.out hf2.out).mono ?_
  rintro e w6 ⟨rfl, h6'⟩
  have H6 := Lib.hid h6'; clear h6'
  go_wp2_with fail
  refine (known _).mono ?_
  rintro e w9 ⟨rfl, hb9⟩
  go_wp2
  go_ret
  exact ⟨rfl, nx H6.out.b hb9⟩

set_option maxRecDepth 100000 in
theorem portsApart_lifted (os : Os) (started : os.Started) (H : Type) (enc : TypeId × Value → H) :
    ReturnsInHanded {} Try.checked os 3 .any (Rows.portsApartSpec.pre6 enc Try.prog Try.f3 Rows.portsApartRow.domain false) (Rows.portsApartSpec.post enc Try.prog Try.f3 false true false false) :=
  law_lift started (by kernel_rfl) Try.func3
    (ChangeSpec.witness6 (enc := enc) (C := Try.checked) false ⟨#[], #[.int .u32 0, .int .u32 0, .int .i64 0, .int .i64 0], []⟩ 8 (by kernel_rfl) (by kernel_rfl) (by kernel_rfl) (by kernel_rfl))
    rfl rfl Try.underlying4 (by kernel_rfl) (fun ds h => match ds, h with | [_, _, _, _], _ => rfl)
    (fun W base args ds p hval hA hsz => by
      rw [Try.params3] at hA hval
      obtain ⟨v0, v1, v2, v3, d0, d1, d2, d3, p0, p1, p2, p3, rfl, rfl, rfl, h0, h1, h2, h3⟩ := trodAll_four hA
      obtain ⟨n0, rfl, _, _, _⟩ := open_int Try.underlying23 (hval 0 23 v0 rfl rfl) h0
      obtain ⟨n1, rfl, _, _, _⟩ := open_int Try.underlying23 (hval 1 23 v1 rfl rfl) h1
      obtain ⟨n2, rfl, _, _, _⟩ := open_int Try.underlying3 (hval 2 3 v2 rfl rfl) h2
      obtain ⟨n3, rfl, _, _, _⟩ := open_int Try.underlying3 (hval 3 3 v3 rfl rfl) h3
      exact portsApart_walk n0 n1 n2 n3 W)

theorem portsApart_holds : Rows.PortsApartSaid :=
  OpenClaim.holds_of_wide 3 Try.f3 rfl rfl rfl rfl rfl rfl rfl ⟨rfl, rfl, rfl, rfl, rfl⟩ rfl rfl rfl rfl rfl (by kernel_rfl) Try.func3 (by kernel_rfl)
    (of_decide_eq_true (by kernel_rfl)) (by unfold Func.isWrapper; rw [if_neg (of_decide_eq_false (by kernel_rfl))]; exact ⟨rfl, rfl⟩)
    (fun os started H enc _ => portsApart_lifted os started H enc)
end Go.Proofs.Ytbhplleaokncpaa
