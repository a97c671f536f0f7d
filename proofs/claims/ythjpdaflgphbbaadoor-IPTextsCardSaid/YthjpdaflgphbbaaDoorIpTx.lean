/-
  IP: the walks of the two laws on an address's text.
-/
import Derived.Test.YthjpdaflgphbbaaDoorIpK
set_option linter.unusedVariables false
namespace Go.Proofs.YthjpdaflgphbbaaDoor
open Go.RowKit

set_option maxHeartbeats 1600000 in
theorem ipTexts_walk (a : Nat) (w : World) (ha : a < 4294967296) (hE : Env w) : Calls Tryd.prog 4 #[.int .u32 a] w fun e w' => e = .returned (.bool true) ∧ Below w.heap.size w w' := by
  have HE := Lib.hid hE; clear hE
  have HT := Lib.hid (textC a w ha HE.out)
  have hsz : (⟨(textP a).toArray⟩ : ByteArray).size ≤ 4000 := by have := textP_len a; show (textP a).toArray.size ≤ 4000; rw [List.size_toArray]; omega
  have HR := Lib.hid (fun w => rtextC a w ha)
  have HP : Hid (∀ w, Env w → Calls Tryd.prog 19 #[.string ⟨(textP a).toArray⟩] w fun e w' => e = .returned (.tuple #[.int .u32 a, .int .i64 0]) ∧ Below w.heap.size w w') := fun w h => by
    have := parseC ⟨(textP a).toArray⟩ w h hsz
    rw [show (⟨(textP a).toArray⟩ : ByteArray).data.toList = textP a from rfl, parse_text a ha, ParR_some] at this
    exact this
  generalize (⟨(textP a).toArray⟩ : ByteArray) = s at HT HR HP
  have hq : (s.toList == s.toList) = true := by simp
  clear hsz
  go_enter Tryd.func4, Tryd.ntmps4
  go_wp2_with fail
  refine HT.out.mono ?_
  rintro e w1 ⟨rfl, b1⟩
  have B1 := Lib.hid b1; clear b1
  go_wp2_with fail
  refine (HP.out _ (HE.out.nx B1.out)).mono ?_
  rintro e w2 ⟨rfl, b2⟩
  have B2 := Lib.hid (nx B1.out b2); clear b2
  go_wp2_with fail
  refine (HR.out _).mono ?_
  rintro e w3 ⟨rfl, b3⟩
  have B3 := Lib.hid (nx B2.out b3); clear b3
  go_wp2_with fail
  refine (known _ (HE.out.nx B3.out)).mono ?_
  rintro e w4 ⟨rfl, b4⟩
  go_wp2
  go_ret
  exact ⟨rfl, nx B3.out b4⟩
set_option maxHeartbeats 1600000 in
theorem ipParses_walk (s : ByteArray) (w : World) (hmax : s.size ≤ 9223372036854775807) (hE : Env w) : Calls Tryd.prog 5 #[.string s] w fun e w' => e = .returned (.bool true) ∧ Below w.heap.size w w' := by
  by_cases h4 : s.size ≤ 4000
  · have HE := Lib.hid hE; clear hE
    have i1 : ¬ (4000 : Int) < s.size := by omega
    have HP := Lib.hid (parseC s w HE.out h4)
    have HR := Lib.hid (fun w => rparseC s w h4)
    generalize parseP s.data.toList = P at HP HR
    unfold ParR at HP HR
    generalize parE P = x at HP HR
    generalize parA P = y at HP HR
    go_enter Tryd.func5, Tryd.ntmps5
    go_wp2_with fail
    refine HP.out.mono ?_
    rintro e w1 ⟨rfl, b1⟩
    have B1 := Lib.hid b1; clear b1
    go_wp2_with fail
    refine (HR.out _).mono ?_
    rintro e w2 ⟨rfl, rfl⟩
    go_wp2_with fail
    refine (known _ (HE.out.nx B1.out)).mono ?_
    rintro e w4 ⟨rfl, b4⟩
    go_wp2
    go_ret
    exact ⟨rfl, nx B1.out b4⟩
  · have i1 : (4000 : Int) < s.size := by omega
    go_enter Tryd.func5, Tryd.ntmps5
    go_wp2
    go_ret
    exact ⟨rfl, rf w⟩
end Go.Proofs.YthjpdaflgphbbaaDoor
