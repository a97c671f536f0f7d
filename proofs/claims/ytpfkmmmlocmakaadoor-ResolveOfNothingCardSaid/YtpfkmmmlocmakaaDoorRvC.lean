/-
  Resolve: slices.Clone at addresses, at questions, at entries.
-/
import Derived.Test.YtpfkmmmlocmakaaDoorRv
set_option linter.unusedVariables false
namespace Go.Proofs.YtpfkmmmlocmakaaDoor
open Go.RowKit

theorem one_all {α : Type} {f : α → Value} (l : List α) (h : ∀ x, (f x).oneCell' = true) : ∀ u ∈ l.map f, u.oneCell' = true := fun u hu => by
  obtain ⟨x, _, rfl⟩ := List.mem_map.1 hu
  exact h x
theorem Reads.own_ {w : World} {base size : Nat} {e : TypeId} {A : Option Addr} {n c : Nat} {xs : List Value} (h : w.ownsRow base e size (.slice A n c) n xs) : Reads w w.heap.size size A n xs := Reads.of_own h
theorem stAd : SliceTy Tryd.prog 22 33 1 4 (.int .u32 0) := ⟨Tryd.underlying22, by kernel_rfl, rfl, by omega⟩
set_option maxRecDepth 100000 in
set_option maxHeartbeats 400000 in
theorem cloneAd (A : Option Addr) (n c : Nat) (xs : List Value) (w : World) (hr : Reads w w.heap.size 1 A n xs) (h1 : ∀ u ∈ xs, u.oneCell' = true) (hn : n ≤ 1000000) (h0 : A = none → n = 0) :
    Calls Tryd.prog 18 #[.slice A n c] w fun e w' => ∃ A' c', e = .returned (.slice A' n c') ∧ w'.ownsRow w.heap.size 33 1 (.slice A' n c') n xs ∧ Below w.heap.size w w' := by
  have Q : ∀ (w : World) (a : Option Addr) (n c : Nat), (binOp .eql 22 (.slice a n c) (.slice none 0 0)).run Tryd.prog w = .ok (.bool a.isNone) w := fun w a n c => Lib.run_eql_slice_nil w _ _ a n c 0 0 Tryd.underlying22
  have H1 := Lib.hid h1
  have HR := Lib.hid hr
  cases A with
  | none =>
    obtain rfl := h0 rfl
    have hx : xs = [] := List.eq_nil_of_length_eq_zero (by simpa using hr.1)
    subst hx
    clear h1 hr
    go_enter Tryd.func18, Tryd.ntmps18
    go_wp2
    go_ret
    exact ⟨none, 0, rfl, World.ownsRow_nil _ _ _ _, rf w⟩
  | some ad =>
    have OL : Hid ((w.alloc (.cells #[] 33)).ownsRow w.heap.size 33 1 (.slice (some ⟨w.heap.size, 0, none⟩) 0 0) 0 []) := own_lit w #[] 0 rfl (Nat.le_refl _) (by unfold maxLen; omega) rfl
    have RA := Lib.hid (Reads.more (Reads.alloc hr (Nat.le_refl _) (.cells #[] 33)) (show w.heap.size ≤ (w.alloc (.cells #[] 33)).heap.size by simp))
    have hs : w.heap.size ≤ (w.alloc (.cells #[] 33)).heap.size := by simp
    have HS := Lib.hid hs
    have BA := Lib.hid (al (rf w) (.cells #[] 33))
    clear h1 hr hs h0
    go_enter Tryd.func18, Tryd.ntmps18
    go_wp2_with (at_builtin; refine app_any stAd rfl (.tmp 5) (.tmp 6) rfl w.heap.size (.slice (some ⟨w.heap.size, 0, none⟩) 0 0) 0 [] rfl OL.out (some ad) n c xs rfl RA.out H1.out (by omega) (by omega) HS.out ?_; intro v3 w3 own3 gr3 at3 bel3; obtain ⟨A3, k3, rfl⟩ := own_slice own3)
    go_ret
    have own4 : w3.ownsRow w.heap.size 33 1 (.slice A3 n k3) n xs := by simpa using own3
    exact ⟨A3, k3, by simp, own4, BA.out.trans bel3⟩
theorem stQu : SliceTy Tryd.prog 61 66 1 8 (.pointer none) := ⟨Tryd.underlying61, by kernel_rfl, rfl, by omega⟩
set_option maxRecDepth 100000 in
set_option maxHeartbeats 400000 in
theorem cloneQu (A : Option Addr) (n c : Nat) (xs : List Value) (w : World) (hr : Reads w w.heap.size 1 A n xs) (h1 : ∀ u ∈ xs, u.oneCell' = true) (hn : n ≤ 1000000) (h0 : A = none → n = 0) :
    Calls Tryd.prog 23 #[.slice A n c] w fun e w' => ∃ A' c', e = .returned (.slice A' n c') ∧ w'.ownsRow w.heap.size 66 1 (.slice A' n c') n xs ∧ Below w.heap.size w w' := by
  have Q : ∀ (w : World) (a : Option Addr) (n c : Nat), (binOp .eql 61 (.slice a n c) (.slice none 0 0)).run Tryd.prog w = .ok (.bool a.isNone) w := fun w a n c => Lib.run_eql_slice_nil w _ _ a n c 0 0 Tryd.underlying61
  have H1 := Lib.hid h1
  have HR := Lib.hid hr
  cases A with
  | none =>
    obtain rfl := h0 rfl
    have hx : xs = [] := List.eq_nil_of_length_eq_zero (by simpa using hr.1)
    subst hx
    clear h1 hr
    go_enter Tryd.func23, Tryd.ntmps23
    go_wp2
    go_ret
    exact ⟨none, 0, rfl, World.ownsRow_nil _ _ _ _, rf w⟩
  | some ad =>
    have OL : Hid ((w.alloc (.cells #[] 66)).ownsRow w.heap.size 66 1 (.slice (some ⟨w.heap.size, 0, none⟩) 0 0) 0 []) := own_lit w #[] 0 rfl (Nat.le_refl _) (by unfold maxLen; omega) rfl
    have RA := Lib.hid (Reads.more (Reads.alloc hr (Nat.le_refl _) (.cells #[] 66)) (show w.heap.size ≤ (w.alloc (.cells #[] 66)).heap.size by simp))
    have hs : w.heap.size ≤ (w.alloc (.cells #[] 66)).heap.size := by simp
    have HS := Lib.hid hs
    have BA := Lib.hid (al (rf w) (.cells #[] 66))
    clear h1 hr hs h0
    go_enter Tryd.func23, Tryd.ntmps23
    go_wp2_with (at_builtin; refine app_any stQu rfl (.tmp 5) (.tmp 6) rfl w.heap.size (.slice (some ⟨w.heap.size, 0, none⟩) 0 0) 0 [] rfl OL.out (some ad) n c xs rfl RA.out H1.out (by omega) (by omega) HS.out ?_; intro v3 w3 own3 gr3 at3 bel3; obtain ⟨A3, k3, rfl⟩ := own_slice own3)
    go_ret
    have own4 : w3.ownsRow w.heap.size 66 1 (.slice A3 n k3) n xs := by simpa using own3
    exact ⟨A3, k3, by simp, own4, BA.out.trans bel3⟩
theorem stEe : SliceTy Tryd.prog 62 74 1 8 (.pointer none) := ⟨Tryd.underlying62, by kernel_rfl, rfl, by omega⟩
set_option maxRecDepth 100000 in
set_option maxHeartbeats 400000 in
theorem cloneEe (A : Option Addr) (n c : Nat) (xs : List Value) (w : World) (hr : Reads w w.heap.size 1 A n xs) (h1 : ∀ u ∈ xs, u.oneCell' = true) (hn : n ≤ 1000000) (h0 : A = none → n = 0) :
    Calls Tryd.prog 21 #[.slice A n c] w fun e w' => ∃ A' c', e = .returned (.slice A' n c') ∧ w'.ownsRow w.heap.size 74 1 (.slice A' n c') n xs ∧ Below w.heap.size w w' := by
  have Q : ∀ (w : World) (a : Option Addr) (n c : Nat), (binOp .eql 62 (.slice a n c) (.slice none 0 0)).run Tryd.prog w = .ok (.bool a.isNone) w := fun w a n c => Lib.run_eql_slice_nil w _ _ a n c 0 0 Tryd.underlying62
  have H1 := Lib.hid h1
  have HR := Lib.hid hr
  cases A with
  | none =>
    obtain rfl := h0 rfl
    have hx : xs = [] := List.eq_nil_of_length_eq_zero (by simpa using hr.1)
    subst hx
    clear h1 hr
    go_enter Tryd.func21, Tryd.ntmps21
    go_wp2
    go_ret
    exact ⟨none, 0, rfl, World.ownsRow_nil _ _ _ _, rf w⟩
  | some ad =>
    have OL : Hid ((w.alloc (.cells #[] 74)).ownsRow w.heap.size 74 1 (.slice (some ⟨w.heap.size, 0, none⟩) 0 0) 0 []) := own_lit w #[] 0 rfl (Nat.le_refl _) (by unfold maxLen; omega) rfl
    have RA := Lib.hid (Reads.more (Reads.alloc hr (Nat.le_refl _) (.cells #[] 74)) (show w.heap.size ≤ (w.alloc (.cells #[] 74)).heap.size by simp))
    have hs : w.heap.size ≤ (w.alloc (.cells #[] 74)).heap.size := by simp
    have HS := Lib.hid hs
    have BA := Lib.hid (al (rf w) (.cells #[] 74))
    clear h1 hr hs h0
    go_enter Tryd.func21, Tryd.ntmps21
    go_wp2_with (at_builtin; refine app_any stEe rfl (.tmp 5) (.tmp 6) rfl w.heap.size (.slice (some ⟨w.heap.size, 0, none⟩) 0 0) 0 [] rfl OL.out (some ad) n c xs rfl RA.out H1.out (by omega) (by omega) HS.out ?_; intro v3 w3 own3 gr3 at3 bel3; obtain ⟨A3, k3, rfl⟩ := own_slice own3)
    go_ret
    have own4 : w3.ownsRow w.heap.size 74 1 (.slice A3 n k3) n xs := by simpa using own3
    exact ⟨A3, k3, by simp, own4, BA.out.trans bel3⟩
end Go.Proofs.YtpfkmmmlocmakaaDoor
