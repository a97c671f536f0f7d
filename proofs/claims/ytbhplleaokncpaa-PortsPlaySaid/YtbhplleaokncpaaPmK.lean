/-
  Ports: contracts at known answers; the laws' first example.
-/
import Derived.Test.YtbhplleaokncpaaPm8
set_option linter.unusedVariables false
namespace Go.Proofs.Ytbhplleaokncpaa
open Go.RowKit Go.Maps

theorem newIs (w : World) (t : TypeId) : IsP (w.alloc (.cells #[.map none] 27)) w.heap.size w.heap.size [] := ⟨Nat.le_refl _, .inl ⟨Blk.new _ _ _, rfl⟩⟩
-- what is known of the world while ports live at pb
structure Pw (w0 w : World) (pb : Nat) (S : List Pl) : Prop where
  is : IsP w w0.heap.size pb S
  b : Below w0.heap.size w0 w
theorem Pw.nx {w0 w w' : World} {pb : Nat} {S : List Pl} (h : Pw w0 w pb S) (hb : Below w.heap.size w w') : Pw w0 w' pb S := ⟨h.is.nx hb, Go.Proofs.Ytbhplleaokncpaa.nx h.b hb⟩
theorem Pw.new (w : World) : Pw w (w.alloc (.cells #[.map none] 27)) w.heap.size [] := ⟨newIs w 0, al (rf w) _⟩
theorem bindK {w0 w : World} {pb : Nat} {S S' : List Pl} {id a port r : Int} (h : Pw w0 w pb S) (hid : (Lit.int .i64 id).wf = true) (hS : S.length ≤ 64) (hR : bindR S id a port = (r, S')) :
    Calls Try.prog 13 #[.pointer (some ⟨pb, 0, none⟩), .int .i64 id, .int .u32 a, .int .i64 port] w fun e w' => e = .returned (.int .i64 r) ∧ Pw w0 w' pb S' := by
  refine (bindC _ pb S id a port w h.is h.b.size hid hS).mono ?_
  rintro e w' ⟨rfl, hw⟩
  rw [hR] at hw ⊢
  exact ⟨rfl, hw.1, h.b.trans hw.2.1⟩
theorem pickQ {w0 w : World} {pb : Nat} {S S' : List Pl} {id a draw n r : Int} (h : Pw w0 w pb S) (hid : (Lit.int .i64 id).wf = true) (hS : S.length ≤ 64) (hR : pickR S id a draw = ((n, r), S')) :
    Calls Try.prog 15 #[.pointer (some ⟨pb, 0, none⟩), .int .i64 id, .int .u32 a, .int .i64 draw] w fun e w' => e = .returned (.tuple #[.int .i64 n, .int .i64 r]) ∧ Pw w0 w' pb S' := by
  refine (pickC _ pb S id a draw w h.is h.b.size hid hS).mono ?_
  rintro e w' ⟨rfl, hw⟩
  rw [hR] at hw ⊢
  exact ⟨rfl, hw.1, h.b.trans hw.2.1⟩
theorem conK {w0 w : World} {pb : Nat} {S S' : List Pl} {id a to r : Int} (h : Pw w0 w pb S) (hid : (Lit.int .i64 id).wf = true) (hR : conR S id a to = (r, S')) :
    Calls Try.prog 17 #[.pointer (some ⟨pb, 0, none⟩), .int .i64 id, .int .u32 a, .int .i64 to] w fun e w' => e = .returned (.int .i64 r) ∧ Pw w0 w' pb S' := by
  refine (conC _ pb S id a to w h.is h.b.size hid).mono ?_
  rintro e w' ⟨rfl, hw⟩
  rw [hR] at hw ⊢
  exact ⟨rfl, hw.1, h.b.trans hw.2.1⟩
theorem delK {w0 w : World} {pb : Nat} {S S' : List Pl} {id : Int} {r : Bool} (h : Pw w0 w pb S) (hid : (Lit.int .i64 id).wf = true) (hR : delR S id = (r, S')) :
    Calls Try.prog 18 #[.pointer (some ⟨pb, 0, none⟩), .int .i64 id] w fun e w' => e = .returned (.bool r) ∧ Pw w0 w' pb S' := by
  refine (delC _ pb S id w h.is h.b.size hid).mono ?_
  rintro e w' ⟨rfl, hw⟩
  rw [hR] at hw ⊢
  exact ⟨rfl, hw.1, h.b.trans hw.2.1⟩
theorem findK {w0 w : World} {pb : Nat} {S : List Pl} {d : Dg} {i : Int} {b : Bool} (h : Pw w0 w pb S) (hF : ∀ v, FindR S d v → v = .tuple #[.int .i64 i, .bool b]) :
    Calls Try.prog 16 #[.pointer (some ⟨pb, 0, none⟩), .agg d.cs.toArray] w fun e w' => e = .returned (.tuple #[.int .i64 i, .bool b]) ∧ Pw w0 w' pb S := by
  refine (findC _ pb S d w h.is).mono ?_
  rintro e w' ⟨⟨v, rfl, hv⟩, hb⟩
  obtain rfl := hF v hv
  exact ⟨rfl, h.nx hb⟩
theorem find_one {S : List Pl} {d : Dg} (q : Pl) (hq : q ∈ S) (hh : hearsR q d = true) (ho : ∀ p ∈ S, hearsR p d = true → p.id = q.id) : ∀ v, FindR S d v → v = .tuple #[.int .i64 q.id, .bool true] := by
  rintro v (⟨_, hn⟩ | ⟨r, rfl, hr⟩)
  · rw [hn q hq] at hh; cases hh
  · rw [ho r hr.1 hr.2.1]
theorem find_none {S : List Pl} {d : Dg} (ho : ∀ p ∈ S, hearsR p d = false) : ∀ v, FindR S d v → v = .tuple #[.int .i64 (-1), .bool false] := by
  rintro v (⟨rfl, _⟩ | ⟨r, rfl, hr⟩)
  · rfl
  · have := hr.2.1; rw [ho r hr.1] at this; cases this
def dg (fr frp to_ top : Int) : Dg := ⟨fr, frp, to_, top, .slice none 0 0⟩
set_option maxRecDepth 100000 in
set_option maxHeartbeats 800000 in
theorem known (w : World) : Calls Try.prog 14 #[] w fun e w' => e = .returned (.bool true) ∧ Below w.heap.size w w' := by
  have H0 := Lib.hid (Pw.new w)
  go_enter Try.func14, Try.ntmps14
  go_wp2_with fail
  refine (bindK (S' := [newP 1 167772161 53]) (r := 0) H0.out (by decide) (by decide) rfl).mono ?_
  rintro e w1 ⟨rfl, h1⟩
  have H1 := Lib.hid h1; clear h1
  go_wp2_with fail
  refine (bindK (S' := [newP 1 167772161 53, newP 2 167772162 53]) (r := 0) H1.out (by decide) (by decide) rfl).mono ?_
  rintro e w2 ⟨rfl, h2⟩
  have H2 := Lib.hid h2; clear h2
  go_wp2_with fail
  refine (findK (d := dg 0 0 167772162 53) (i := 2) (b := true) H2.out (find_one (newP 2 167772162 53) (by simp) rfl (fun p hp hh => by
    rcases List.mem_cons.1 hp with rfl | hp
    · cases hh
    · rcases List.mem_cons.1 hp with rfl | hp
      · rfl
      · cases hp))).mono ?_
  rintro e w3 ⟨rfl, h3⟩
  have H3 := Lib.hid h3; clear h3
  go_wp2
  go_ret
  exact ⟨rfl, H3.out.b⟩
end Go.Proofs.Ytbhplleaokncpaa
