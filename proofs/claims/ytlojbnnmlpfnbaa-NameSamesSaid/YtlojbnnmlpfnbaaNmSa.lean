/-
  NameSames: for every two texts the law 'two names are one, if they are but for capital letters' returns true.
  No condition: for every two strings.
-/
import Derived.Test.YtlojbnnmlpfnbaaNmK
import Derived.Test.YtlojbnnmlpfnbaaLaw
set_option linter.unusedVariables false
namespace Go.Proofs.Ytlojbnnmlpfnbaa
open Go.ChangeShapes Go.WideShapes Go.ChangeAt Go.RowKit
open Go.ChangeMaps (open_string shut_string)

theorem str_le {H : Type} {ts : List TypeId} {ds : List (DataW H)} (h : (DataW.weightsEach Try.prog ts ds).all (· ≤ reachBytes) = true) {j : Nat} {t : TypeId} {s : ByteArray} (ht : ts[j]? = some t) (hd : ds[j]? = some (.lit (.string s.data.toList))) : s.size ≤ 140737488355327 := by
  have hr := reachBytes_lt
  have := List.all_eq_true.1 h _ (DataW.weights_mem_each ht hd s.data.toList.length (by simp [DataW.weights]))
  simp only [decide_eq_true_eq, str_len] at this
  omega
set_option maxHeartbeats 1600000 in
theorem nameSames_walk (a b : ByteArray) (w : World) (ha : a.size ≤ 140737488355327) (hb : b.size ≤ 140737488355327) : Calls Try.prog 4 #[.string a, .string b] w fun e w' => e = .returned (.bool true) ∧ Below w.heap.size w w' := by
  by_cases hl : 3000 < (a.size : Int) + b.size
  · go_enter Try.func4, Try.ntmps4
    go_wp2
    go_ret
    exact ⟨rfl, rf w⟩
  · have ha : a.size ≤ 1099511627776 := by omega
    have hb : b.size ≤ 1099511627776 := by omega
    have hab : (low b == low a) = (low a == low b) := Bool.beq_comm ..
    go_enter Try.func4, Try.ntmps4
    go_wp2_with fail
    refine (sameC a b _ ha hb).mono ?_
    rintro e w1 ⟨rfl, n1, rfl⟩
    generalize hx : (low a == low b) = x
    have HX := Lib.hid hx; clear hx
    go_wp2_with fail
    refine (rsameC a b _ ha hb).mono ?_
    rintro e w2 ⟨rfl, b2⟩
    rw [HX.out]
    go_wp2_with fail
    refine (smallC a _ ha).mono ?_
    rintro e w3 ⟨s, rfl, hs, b3⟩
    have hs2 := low_small hs
    have hs3 : s.size ≤ 1099511627776 := by rw [← low_len, hs2, low_len]; exact ha
    have HS2 := Lib.hid hs2; clear hs2 hs
    go_wp2_with fail
    refine (sameC a s _ ha hs3).mono ?_
    rintro e w4 ⟨rfl, n4, rfl⟩
    rw [HS2.out, show (low a == low a) = true from beq_self_eq_true _]
    go_wp2_with fail
    refine (sameC b a _ hb ha).mono ?_
    rintro e w5 ⟨rfl, n5, rfl⟩
    rw [hab, HX.out]
    clear hab
    go_wp2_with fail
    refine (sameC a b _ ha hb).mono ?_
    rintro e w6 ⟨rfl, n6, rfl⟩
    rw [HX.out]
    go_wp2_with fail
    refine (known _).mono ?_
    rintro e w7 ⟨rfl, b7⟩
    go_wp2
    go_ret
    exact ⟨rfl, nx (dn (nx (nx (dn (rf w) n1) b2) b3) (n4 + n5 + n6)) b7⟩
set_option maxRecDepth 100000 in
theorem nameSames_lifted (os : Os) (started : os.Started) (H : Type) (enc : TypeId × Value → H) :
    ReturnsInHanded {} Try.checked os 4 .any (Rows.nameSamesSpec.pre6 enc Try.prog Try.f4 Rows.nameSamesRow.domain false) (Rows.nameSamesSpec.post enc Try.prog Try.f4 false true false false) :=
  law_lift started (by kernel_rfl) Try.func4
    (ChangeSpec.witness6 (enc := enc) (C := Try.checked) false ⟨#[], #[.string ⟨#[]⟩, .string ⟨#[]⟩], []⟩ 8 (by kernel_rfl) (by kernel_rfl) (by kernel_rfl) (by kernel_rfl))
    rfl rfl Try.underlying4 (by kernel_rfl) (fun ds h => match ds, h with | [_, _], _ => rfl)
    (fun W base args ds p hval hA hsz => by
      rw [Try.params4] at hA hval
      rw [Try.params4] at hsz
      obtain ⟨v0, v1, d0, d1, p0, p1, rfl, rfl, rfl, h0, h1⟩ := trodAll_two hA
      obtain ⟨s, rfl, rfl, _, hs⟩ := open_string Try.underlying9 (hval 0 9 v0 rfl rfl) h0
      obtain ⟨t, rfl, rfl, _, ht⟩ := open_string Try.underlying9 (hval 1 9 v1 rfl rfl) h1
      exact nameSames_walk s t W (str_le hsz (j := 0) rfl rfl) (str_le hsz (j := 1) rfl rfl))
theorem nameSames_holds : Rows.NameSamesSaid :=
  OpenClaim.holds_of_wide 4 Try.f4 rfl rfl rfl rfl rfl rfl rfl ⟨rfl, rfl, rfl, rfl, rfl⟩ rfl rfl rfl rfl rfl (by kernel_rfl) Try.func4 (by kernel_rfl)
    (of_decide_eq_true (by kernel_rfl)) (by unfold Func.isWrapper; rw [if_neg (of_decide_eq_false (by kernel_rfl))]; exact ⟨rfl, rfl⟩)
    (fun os started H enc _ => nameSames_lifted os started H enc)
end Go.Proofs.Ytlojbnnmlpfnbaa
