/-
  Resolve: slices.Contains at pointers to questions.
-/
import Derived.Test.YtpfkmmmlocmakaaDoorRvC
import Derived.LaidEqlPtr
set_option linter.unusedVariables false
namespace Go.Proofs.YtpfkmmmlocmakaaDoor
open Go.RowKit

def IsB (w : World) (g : Nat) : Prop := ∃ t cs, Blk w g t cs
theorem ptr_eq {a b : Nat} {w : World} (ha : IsB w a) (hb : IsB w b) : (binOp .eql 66 (.pointer (some ⟨a, 0, none⟩)) (.pointer (some ⟨b, 0, none⟩))).run Tryd.prog w = .ok (.bool (a == b)) w := by
  obtain ⟨j, hj, hs⟩ : ∃ j, Tryd.prog.info? 68 = some j ∧ j.size ≠ 0 := by
    have h : (Tryd.prog.info? 68).map (·.size) = some 7 := by kernel_rfl
    cases hi : Tryd.prog.info? 68 with
    | none => rw [hi] at h; cases h
    | some j => rw [hi] at h; exact ⟨j, rfl, by injection h with h; have h : j.size = 7 := h; omega⟩
  by_cases hab : a = b
  · subst hab
    rw [run_eql_ptr_same w _ Tryd.underlying66 hj, beq_self_eq_true]
  · obtain ⟨ta, ca, ha⟩ := ha
    obtain ⟨tb, cb, hb⟩ := hb
    rw [run_eql_ptr_other (a := ⟨a, 0, none⟩) (b := ⟨b, 0, none⟩) w Tryd.underlying66 hj hs (by intro e; injection e with e; exact hab e) ha hb, beq_eq_false_iff_ne.2 hab]
set_option maxRecDepth 100000 in
set_option maxHeartbeats 800000 in
theorem indexC (w : World) (A : Option Addr) (c : Nat) (ps : List Nat) (g : Nat) (hr : Reads w w.heap.size 1 A ps.length (ps.map ptr)) (hl : ps.length ≤ 1000000) (hg : IsB w g) (hps : ∀ p ∈ ps, IsB w p) :
    Calls Tryd.prog 65 #[.slice A ps.length c, .pointer (some ⟨g, 0, none⟩)] w fun e w' => (∃ i : Int, e = .returned (.int .i64 i) ∧ (0 ≤ i ↔ g ∈ ps)) ∧ w' = w := by
  have HR := Lib.hid hr
  have HG0 := Lib.hid hg
  have HPS := Lib.hid hps
  clear hr hg hps
  obtain ⟨wz, hwz⟩ : ∃ wz, wz = w := ⟨_, rfl⟩
  have HWZ := Lib.hid hwz
  clear hwz
  go_enter Tryd.func65, Tryd.ntmps65
  go_wp2
  go_loopw [8] (fun kv wr => ∃ k : Nat, kv = .int .i64 k ∧ k ≤ ps.length ∧ Hid (wr = wz) ∧ Hid (∀ j, j < k → ps[j]? ≠ some g)) (fun kv _ => ps.length - (intOf kv).toNat)
  case atStart => exact ⟨0, rfl, by omega, HWZ.out.symm, fun j h => absurd h (by omega)⟩
  case round =>
    obtain ⟨k, rfl, hk, HW, HN⟩ := hrel
    have e0 : wr = w := HW.out.trans HWZ.out
    subst e0
    by_cases hlt : k < ps.length
    · obtain ⟨ad, u, rfl, _, hu, hc⟩ := HR.out.at_ hlt
      have k0 : (0 : Int) ≤ k := by omega
      have k1 : (k : Int) < ps.length := by omega
      obtain ⟨p, hp⟩ : ∃ p, ps[k]? = some p := ⟨_, List.getElem?_eq_getElem hlt⟩
      have hup : u = .pointer (some ⟨p, 0, none⟩) := by rw [List.getElem?_map, hp] at hu; exact (Option.some.inj hu).symm
      rw [hup] at hc
      have HE := Lib.hid (ptr_eq HG0.out (HPS.out p (List.mem_of_getElem? hp)))
      have HP := Lib.hid hp
      clear hp hu hup
      by_cases hgp : g = p
      · have e1 : (binOp .eql 66 (.pointer (some ⟨g, 0, none⟩)) (.pointer (some ⟨p, 0, none⟩))).run Tryd.prog wr = .ok (.bool true) wr := by rw [HE.out, beq_iff_eq.2 hgp]
        have HG := Lib.hid hgp
        clear hgp
        go_wp2
        go_ret
        refine ⟨⟨k, rfl, ?_⟩, rfl⟩
        rw [HG.out]
        exact ⟨fun _ => List.mem_of_getElem? HP.out, fun _ => by omega⟩
      · have e1 : (binOp .eql 66 (.pointer (some ⟨g, 0, none⟩)) (.pointer (some ⟨p, 0, none⟩))).run Tryd.prog wr = .ok (.bool false) wr := by rw [HE.out]; congr 2; simpa using hgp
        have HG := Lib.hid hgp
        clear hgp
        go_wp2
        go_roundw
        case rel => exact ⟨k + 1, by go_num, by omega, HW.out, fun j hj => by
          by_cases hj2 : j < k
          · exact HN.out j hj2
          · obtain rfl : j = k := by omega
            rw [HP.out]; intro h; exact HG.out (Option.some.inj h).symm⟩
        case measure => simp [intOf]; omega
    · go_wp2
      go_ret
      refine ⟨⟨-1, rfl, fun h => absurd h (by omega), fun h => ?_⟩, rfl⟩
      exfalso
      obtain ⟨j, hj⟩ := List.getElem?_of_mem h
      exact HN.out j (by have := (List.getElem?_eq_some_iff.1 hj).1; omega) hj
theorem containsC (w : World) (A : Option Addr) (c : Nat) (ps : List Nat) (g : Nat) (hr : Reads w w.heap.size 1 A ps.length (ps.map ptr)) (hl : ps.length ≤ 1000000) (hg : IsB w g) (hps : ∀ p ∈ ps, IsB w p) :
    Calls Tryd.prog 47 #[.slice A ps.length c, .pointer (some ⟨g, 0, none⟩)] w fun e w' => e = .returned (.bool (ps.contains g)) ∧ w' = w := by
  have HC := Lib.hid (indexC w A c ps g hr hl hg hps)
  clear hr hg hps
  go_enter Tryd.func47, Tryd.ntmps47
  go_wp2_with fail
  refine HC.out.mono ?_
  rintro e w1 ⟨⟨i, rfl, hi⟩, rfl⟩
  have HI := Lib.hid hi
  clear hi
  go_wp2
  go_ret
  refine ⟨ret_bool ?_, rfl⟩
  rw [Bool.eq_iff_iff, decide_eq_true_iff, List.contains_iff_mem]
  exact HI.out
end Go.Proofs.YtpfkmmmlocmakaaDoor
