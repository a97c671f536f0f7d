/-
  The steps of a lease's script, opened.
-/
import Derived.Test.YtgdlghieifadhaaOpn
import Derived.Test.YtgdlghieifadhaaLsO
set_option linter.unusedVariables false
namespace Go.Proofs.Ytgdlghieifadhaa
open Go.ChangeShapes Go.WideShapes Go.ChangeAt Go.RowKit

structure Stp where
  (kind by_ draw : Int)
  (m : Ls)
  (own : Bool)
def Stp.cs (s : Stp) : List Value := [.int .i64 s.kind, .int .i64 s.by_, .int .i64 s.draw] ++ s.m.cs ++ [.bool s.own]
theorem Stp.len (s : Stp) : s.cs.length = 20 := rfl
theorem Stp.one (s : Stp) : ∀ v ∈ s.cs, v.oneCell' = true := by
  intro v hv
  simp only [Stp.cs, List.mem_append, List.mem_cons, List.not_mem_nil, or_false] at hv
  rcases hv with ((rfl | rfl | rfl) | hv) | rfl
  · rfl
  · rfl
  · rfl
  · exact s.m.one v hv
  · rfl
theorem trod_step {H : Type} {enc : TypeId × Value → H} {w : World} {base : Nat} {sp : Nat → Bool} {held : Bool} {fuel : Nat} {cs : List Value} {x : DataW H × List MemPlace}
    (hsz : cs.length = 20) (hf : DataW.trod enc Try.prog w base sp held fuel 48 cs = some x) : ∃ s : Stp, cs = s.cs := by
  have hk := leaves_of (F := 6) (N := 20) (ks := [.int .i64, .int .i64, .int .i64, .int .i64, .int .u32, .int .u32, .int .u8, .int .u8, .int .u8, .int .u8, .int .u8, .int .u8, .int .i64, .int .u32, .int .u32, .int .i64, .int .u32, .int .u32, .int .u32, .bool]) hf (by kernel_rfl)
  match cs, hsz with
  | [x0, x1, x2, x3, x4, x5, x6, x7, x8, x9, x10, x11, x12, x13, x14, x15, x16, x17, x18, x19], _ =>
    obtain ⟨v0, e0, a0, h0, _⟩ := hk 0 _ rfl
    obtain rfl : x0 = v0 := by injection e0
    subst h0
    obtain ⟨v1, e1, a1, h1, _⟩ := hk 1 _ rfl
    obtain rfl : x1 = v1 := by injection e1
    subst h1
    obtain ⟨v2, e2, a2, h2, _⟩ := hk 2 _ rfl
    obtain rfl : x2 = v2 := by injection e2
    subst h2
    obtain ⟨v3, e3, a3, h3, _⟩ := hk 3 _ rfl
    obtain rfl : x3 = v3 := by injection e3
    subst h3
    obtain ⟨v4, e4, a4, h4, _⟩ := hk 4 _ rfl
    obtain rfl : x4 = v4 := by injection e4
    subst h4
    obtain ⟨v5, e5, a5, h5, _⟩ := hk 5 _ rfl
    obtain rfl : x5 = v5 := by injection e5
    subst h5
    obtain ⟨v6, e6, a6, h6, _⟩ := hk 6 _ rfl
    obtain rfl : x6 = v6 := by injection e6
    subst h6
    obtain ⟨v7, e7, a7, h7, _⟩ := hk 7 _ rfl
    obtain rfl : x7 = v7 := by injection e7
    subst h7
    obtain ⟨v8, e8, a8, h8, _⟩ := hk 8 _ rfl
    obtain rfl : x8 = v8 := by injection e8
    subst h8
    obtain ⟨v9, e9, a9, h9, _⟩ := hk 9 _ rfl
    obtain rfl : x9 = v9 := by injection e9
    subst h9
    obtain ⟨v10, e10, a10, h10, _⟩ := hk 10 _ rfl
    obtain rfl : x10 = v10 := by injection e10
    subst h10
    obtain ⟨v11, e11, a11, h11, _⟩ := hk 11 _ rfl
    obtain rfl : x11 = v11 := by injection e11
    subst h11
    obtain ⟨v12, e12, a12, h12, _⟩ := hk 12 _ rfl
    obtain rfl : x12 = v12 := by injection e12
    subst h12
    obtain ⟨v13, e13, a13, h13, _⟩ := hk 13 _ rfl
    obtain rfl : x13 = v13 := by injection e13
    subst h13
    obtain ⟨v14, e14, a14, h14, _⟩ := hk 14 _ rfl
    obtain rfl : x14 = v14 := by injection e14
    subst h14
    obtain ⟨v15, e15, a15, h15, _⟩ := hk 15 _ rfl
    obtain rfl : x15 = v15 := by injection e15
    subst h15
    obtain ⟨v16, e16, a16, h16, _⟩ := hk 16 _ rfl
    obtain rfl : x16 = v16 := by injection e16
    subst h16
    obtain ⟨v17, e17, a17, h17, _⟩ := hk 17 _ rfl
    obtain rfl : x17 = v17 := by injection e17
    subst h17
    obtain ⟨v18, e18, a18, h18, _⟩ := hk 18 _ rfl
    obtain rfl : x18 = v18 := by injection e18
    subst h18
    obtain ⟨v19, e19, a19, h19⟩ := hk 19 _ rfl
    obtain rfl : x19 = v19 := by injection e19
    subst h19
    exact ⟨⟨a0, a1, a2, ⟨a3, a4, a5, ⟨a6, a7, a8, a9, a10, a11⟩, a12, a13, a14, a15, a16, a17, a18⟩, a19⟩, rfl⟩
theorem open_steps {H : Type} {enc : TypeId × Value → H} {w : World} {base b0 : Nat} {r : Reach} {sp : Nat → Bool} {held : Bool} {v : Value} {d : DataW H} {p : List MemPlace}
    (hv : Value.okWide Try.prog w r b0 43 v) (h : DataW.Trod enc Try.prog w base sp held 43 v d p) :
    ∃ (A : Option Addr) (n c : Nat) (l : List Stp), v = .slice A n c ∧ n ≤ c ∧ c ≤ maxLen ∧ RowsAt w w.heap.size 20 A n (l.map Stp.cs) := by
  obtain ⟨A, n, c, l, rfl, h1, h2, h3, h4⟩ := open_rows Try.underlying43 (by kernel_rfl) (by decide) hv h (fun cs => ∃ s : Stp, cs = s.cs) (fun _ cs _ hl hx => trod_step hl hx)
  have key : ∀ l : List (List Value), (∀ r ∈ l, ∃ s : Stp, r = s.cs) → ∃ k : List Stp, l = k.map Stp.cs := by
    intro l
    induction l with
    | nil => intro _; exact ⟨[], rfl⟩
    | cons a l ih =>
      intro h
      obtain ⟨s, rfl⟩ := h _ List.mem_cons_self
      obtain ⟨k, rfl⟩ := ih fun r hr => h r (List.mem_cons_of_mem _ hr)
      exact ⟨s :: k, rfl⟩
  obtain ⟨k, rfl⟩ := key l h4
  exact ⟨A, n, c, k, rfl, h1, h2, h3⟩
end Go.Proofs.Ytgdlghieifadhaa
