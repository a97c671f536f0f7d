/-
  One that is connected hears its peer alone, and ahead of one that hears all. No conditions.
-/
import Derived.Test.YtbhplleaokncpaaPmK
import Derived.Test.YtbhplleaokncpaaLaw
set_option linter.unusedVariables false
namespace Go.Proofs.Ytbhplleaokncpaa
open Go.ChangeShapes Go.WideShapes Go.ChangeAt Go.RowKit

theorem bind_ok0 (S : List Pl) (id a port : Int) (h1 : 1 ≤ port) (h2 : port ≤ 65535) (hm : mayR S id = 0) (hf : freeR S a port = true) : bindR S id a port = (0, S ++ [newP id a port]) := by
  unfold bindR; rw [if_neg (by omega), if_neg (by rw [hm]; decide), if_neg (by rw [hf]; decide)]
set_option maxRecDepth 100000 in
set_option maxHeartbeats 1600000 in
theorem portsPeer_walk (a port peer pp other : Int) (w : World) :
    Calls Try.prog 5 #[.int .u32 a, .int .i64 port, .int .u32 peer, .int .i64 pp, .int .u32 other] w fun e w' => e = .returned (.bool true) ∧ Below w.heap.size w w' := by
  have H0 := Lib.hid (Pw.new w)
  by_cases h1 : port < 1
  · go_enter Try.func5, Try.ntmps5
    go_wp2_with fail
    refine (known _).mono ?_
    rintro e w9 ⟨rfl, hb9⟩
    go_wp2
    go_ret
    exact ⟨rfl, hb9⟩
  by_cases h2 : 65535 < port
  · go_enter Try.func5, Try.ntmps5
    go_wp2_with fail
    refine (known _).mono ?_
    rintro e w9 ⟨rfl, hb9⟩
    go_wp2
    go_ret
    exact ⟨rfl, hb9⟩
  by_cases h3 : pp < 1
  · go_enter Try.func5, Try.ntmps5
    go_wp2_with fail
    refine (known _).mono ?_
    rintro e w9 ⟨rfl, hb9⟩
    go_wp2
    go_ret
    exact ⟨rfl, hb9⟩
  by_cases h4 : 65535 < pp
  · go_enter Try.func5, Try.ntmps5
    go_wp2_with fail
    refine (known _).mono ?_
    rintro e w9 ⟨rfl, hb9⟩
    go_wp2
    go_ret
    exact ⟨rfl, hb9⟩
  have hb := Lib.hid (bind_ok0 [] 7 0 port (by omega) (by omega) rfl rfl)
  have hc : Hid (conR [newP 7 0 port] 7 peer pp = (0, [(⟨7, 0, port, true, peer, pp⟩ : Pl)])) := by
    show conR _ _ _ _ = _
    unfold conR
    rw [show ids [newP 7 0 port] 7 = true from rfl, if_neg (by decide), if_neg (by omega), if_neg (by omega)]
    rfl
  have hh1 : Hid (hearsR (⟨7, 0, port, true, peer, pp⟩ : Pl) (dg peer pp a port) = true) := by show hearsR _ _ = _; simp [hearsR, dg]
  by_cases ho : other = peer
  · have hh2 : Hid (hearsR (⟨7, 0, port, true, peer, pp⟩ : Pl) (dg other pp a port) = true) := by show hearsR _ _ = _; simp [hearsR, dg, ho]
    have q : ((other : Int) == peer) = true := by rw [beq_iff_eq]; exact ho
    clear ho
    go_enter Try.func5, Try.ntmps5
    go_wp2_with fail
    refine (bindK (S' := [newP 7 0 port]) (r := 0) H0.out (by decide) (by decide) hb.out).mono ?_
    rintro e w1 ⟨rfl, h1'⟩
    have H1 := Lib.hid h1'; clear h1'
    go_wp2_with fail
    refine (conK H1.out (by decide) hc.out).mono ?_
    rintro e w2 ⟨rfl, h2'⟩
    have H2 := Lib.hid h2'; clear h2'
    go_wp2_with fail
    refine (findK (d := dg peer pp a port) (i := 7) (b := true) H2.out (find_one _ List.mem_cons_self hh1.out (fun p hp _ => by rw [List.mem_singleton.1 hp]))).mono ?_
    rintro e w3 ⟨rfl, h3'⟩
    have H3 := Lib.hid h3'; clear h3'
    go_wp2_with fail
    refine (findK (d := dg other pp a port) (i := 7) (b := true) H3.out (find_one _ List.mem_cons_self hh2.out (fun p hp _ => by rw [List.mem_singleton.1 hp]))).mono ?_
    rintro e w4 ⟨rfl, h4'⟩
    have H4 := Lib.hid h4'; clear h4'
    go_wp2_with fail
    refine (delK (S' := []) (r := true) H4.out (by decide) rfl).mono ?_
    rintro e w5 ⟨rfl, h5'⟩
    have H5 := Lib.hid h5'; clear h5'
    go_wp2_with fail
    refine (delK (S' := []) (r := false) H5.out (by decide) rfl).mono ?_
    rintro e w6 ⟨rfl, h6'⟩
    have H6 := Lib.hid h6'; clear h6'
    go_wp2_with fail
    refine (known _).mono ?_
    rintro e w9 ⟨rfl, hb9⟩
    go_wp2
    go_ret
    exact ⟨rfl, nx H6.out.b hb9⟩
  · have hh2 : Hid (hearsR (⟨7, 0, port, true, peer, pp⟩ : Pl) (dg other pp a port) = false) := by show hearsR _ _ = _; simp [hearsR, dg]; intro e; exact absurd e.symm ho
    have q : ((other : Int) == peer) = false := by rw [beq_eq_false_iff_ne]; exact ho
    clear ho
    go_enter Try.func5, Try.ntmps5
    go_wp2_with fail
    refine (bindK (S' := [newP 7 0 port]) (r := 0) H0.out (by decide) (by decide) hb.out).mono ?_
    rintro e w1 ⟨rfl, h1'⟩
    have H1 := Lib.hid h1'; clear h1'
    go_wp2_with fail
    refine (conK H1.out (by decide) hc.out).mono ?_
    rintro e w2 ⟨rfl, h2'⟩
    have H2 := Lib.hid h2'; clear h2'
    go_wp2_with fail
    refine (findK (d := dg peer pp a port) (i := 7) (b := true) H2.out (find_one _ List.mem_cons_self hh1.out (fun p hp _ => by rw [List.mem_singleton.1 hp]))).mono ?_
    rintro e w3 ⟨rfl, h3'⟩
    have H3 := Lib.hid h3'; clear h3'
    go_wp2_with fail
    refine (findK (d := dg other pp a port) (i := -1) (b := false) H3.out (find_none (fun p hp => by rw [List.mem_singleton.1 hp]; exact hh2.out))).mono ?_
    rintro e w4 ⟨rfl, h4'⟩
    have H4 := Lib.hid h4'; clear h4'
    go_wp2_with fail
    refine (delK (S' := []) (r := true) H4.out (by decide) rfl).mono ?_
    rintro e w5 ⟨rfl, h5'⟩
    have H5 := Lib.hid h5'; clear h5'
    go_wp2_with fail
    refine (delK (S' := []) (r := false) H5.out (by decide) rfl).mono ?_
    rintro e w6 ⟨rfl, h6'⟩
    have H6 := Lib.hid h6'; clear h6'
    go_wp2_with fail
    refine (known _).mono ?_
    rintro e w9 ⟨rfl, hb9⟩
    go_wp2
    go_ret
    exact ⟨rfl, nx H6.out.b hb9⟩
theorem trodAll_five {H : Type} {enc : TypeId × Value → H} {P : Program} {w : World} {base : Nat} {spare : Nat → Bool} {held : Bool} {t0 t1 t2 t3 t4 : TypeId} {args : Array Value} {ds : List (DataW H)} {ps : List MemPlace}
    (h : DataW.TrodAll enc P w base spare held [t0, t1, t2, t3, t4] args.toList ds ps) :
    ∃ v0 v1 v2 v3 v4 d0 d1 d2 d3 d4 p0 p1 p2 p3 p4, args = #[v0, v1, v2, v3, v4] ∧ ds = [d0, d1, d2, d3, d4] ∧ DataW.Trod enc P w base spare held t0 v0 d0 p0 ∧ DataW.Trod enc P w base spare held t1 v1 d1 p1 ∧ DataW.Trod enc P w base spare held t2 v2 d2 p2 ∧ DataW.Trod enc P w base spare held t3 v3 d3 p3 ∧ DataW.Trod enc P w base spare held t4 v4 d4 p4 := by
  obtain ⟨v0, vs0, d0, e0, p0, q0, hargs, rfl, rfl, h0, r0⟩ := trodAll_cons h
  obtain ⟨v1, vs1, d1, e1, p1, q1, rfl, rfl, rfl, h1, r1⟩ := trodAll_cons r0
  obtain ⟨v2, vs2, d2, e2, p2, q2, rfl, rfl, rfl, h2, r2⟩ := trodAll_cons r1
  obtain ⟨v3, vs3, d3, e3, p3, q3, rfl, rfl, rfl, h3, r3⟩ := trodAll_cons r2
  obtain ⟨v4, vs4, d4, e4, p4, q4, rfl, rfl, rfl, h4, r4⟩ := trodAll_cons r3
  obtain ⟨rfl, rfl, rfl⟩ := trodAll_nil r4
  exact ⟨v0, v1, v2, v3, v4, d0, d1, d2, d3, d4, p0, p1, p2, p3, p4, by cases args; simp_all, rfl, h0, h1, h2, h3, h4⟩

set_option maxRecDepth 100000 in
theorem portsPeer_lifted (os : Os) (started : os.Started) (H : Type) (enc : TypeId × Value → H) :
    ReturnsInHanded {} Try.checked os 5 .any (Rows.portsPeerSpec.pre6 enc Try.prog Try.f5 Rows.portsPeerRow.domain false) (Rows.portsPeerSpec.post enc Try.prog Try.f5 false true false false) :=
  law_lift started (by kernel_rfl) Try.func5
    (ChangeSpec.witness6 (enc := enc) (C := Try.checked) false ⟨#[], #[.int .u32 0, .int .i64 0, .int .u32 0, .int .i64 0, .int .u32 0], []⟩ 8 (by kernel_rfl) (by kernel_rfl) (by kernel_rfl) (by kernel_rfl))
    rfl rfl Try.underlying4 (by kernel_rfl) (fun ds h => match ds, h with | [_, _, _, _, _], _ => rfl)
    (fun W base args ds p hval hA hsz => by
      rw [Try.params5] at hA hval
      obtain ⟨v0, v1, v2, v3, v4, d0, d1, d2, d3, d4, p0, p1, p2, p3, p4, rfl, rfl, h0, h1, h2, h3, h4⟩ := trodAll_five hA
      obtain ⟨n0, rfl, _, _, _⟩ := open_int Try.underlying23 (hval 0 23 v0 rfl rfl) h0
      obtain ⟨n1, rfl, _, _, _⟩ := open_int Try.underlying3 (hval 1 3 v1 rfl rfl) h1
      obtain ⟨n2, rfl, _, _, _⟩ := open_int Try.underlying23 (hval 2 23 v2 rfl rfl) h2
      obtain ⟨n3, rfl, _, _, _⟩ := open_int Try.underlying3 (hval 3 3 v3 rfl rfl) h3
      obtain ⟨n4, rfl, _, _, _⟩ := open_int Try.underlying23 (hval 4 23 v4 rfl rfl) h4
      exact portsPeer_walk n0 n1 n2 n3 n4 W)

theorem portsPeer_holds : Rows.PortsPeerSaid :=
  OpenClaim.holds_of_wide 5 Try.f5 rfl rfl rfl rfl rfl rfl rfl ⟨rfl, rfl, rfl, rfl, rfl⟩ rfl rfl rfl rfl rfl (by kernel_rfl) Try.func5 (by kernel_rfl)
    (of_decide_eq_true (by kernel_rfl)) (by unfold Func.isWrapper; rw [if_neg (of_decide_eq_false (by kernel_rfl))]; exact ⟨rfl, rfl⟩)
    (fun os started H enc _ => portsPeer_lifted os started H enc)
end Go.Proofs.Ytbhplleaokncpaa
