/-
  Two lists of the same message, or of none, are found the same.
-/
import Derived.Test.YtgdlghieifadhaaLrE
import Derived.Test.YtgdlghieifadhaaOpn
set_option linter.unusedVariables false
namespace Go.Proofs.Ytgdlghieifadhaa
open Go.RowKit

theorem neq_self (m : Ls) (w : World) : (binOp .neq 27 (.agg m.cs.toArray) (.agg m.cs.toArray)).run Try.prog w = .ok (.bool false) w := by
  have h := eql_self m w
  simp only [binOp, Sem.run_bind] at h ⊢
  revert h
  rcases hh : (Op.equal 27 (.agg m.cs.toArray) (.agg m.cs.toArray)).run Try.prog w with ⟨v, w'⟩ | _ | _ <;> simp
set_option maxHeartbeats 800000 in
theorem rowsC (o : Option Ls) (u v : Value) (B B' : Nat) (w : World) (hu : Out w B u o) (hv : Out w B' v o) :
    Calls Try.prog 19 #[u, v] w fun e w' => e = .returned (.bool true) ∧ ∃ n, w' = w.drewN n := by
  rcases o with _ | x
  · obtain rfl : u = .slice none 0 0 := hu
    obtain rfl : v = .slice none 0 0 := hv
    go_enter Try.func19, Try.ntmps19
    go_wp2
    go_loop [5] (fun i => i = .int .i64 0) (fun _ => 0)
    case atStart => rfl
    case round =>
      obtain rfl := hrel
      go_wp2
      go_ret
      exact ⟨rfl, 0, rfl⟩
  · obtain ⟨g, rfl, _, hg⟩ := hu
    obtain ⟨k, rfl, _, hk⟩ := hv
    have hn := neq_self x
    have lg : ∀ w', (∃ n, w' = w.drewN n) → ∀ j v, x.cs[j]? = some v → w'.cell? ((⟨g, 0, none⟩ : Addr).add j) = some v := by
      rintro _ ⟨n, rfl⟩ j v hv
      rw [Addr.add_mid, Nat.zero_add]; exact ((hg.drewN n).cell j).trans (by rw [List.getElem?_toArray]; exact hv)
    have lk : ∀ w', (∃ n, w' = w.drewN n) → ∀ j v, x.cs[j]? = some v → w'.cell? ((⟨k, 0, none⟩ : Addr).add j) = some v := by
      rintro _ ⟨n, rfl⟩ j v hv
      rw [Addr.add_mid, Nat.zero_add]; exact ((hk.drewN n).cell j).trans (by rw [List.getElem?_toArray]; exact hv)
    have LG := Lib.hid lg
    have LK := Lib.hid lk
    have hl : (Try.prog.info? 27).map (·.size) = some x.cs.length := by rw [Ls.len]; kernel_rfl
    have HL := Lib.hid hl
    generalize x.cs = X at hn LG LK HL
    clear hg hk lg lk hl
    go_enter Try.func19, Try.ntmps19
    go_wp2
    go_loopw [5] (fun i wr => ∃ m n : Nat, m ≤ 1 ∧ i = .int .i64 m ∧ wr = w.drewN n) (fun i _ => (1 - intOf i).toNat)
    case atStart => exact ⟨0, 0, by omega, rfl, rfl⟩
    case round =>
      obtain ⟨m, n, hm, rfl, rfl⟩ := hrel
      by_cases h0 : m < 1
      · obtain rfl : m = 0 := by omega
        go_wp2
        refine wp_region_quiet_lit (by kernel_rfl) (by kernel_rfl) ?_
        repeat (go_big_quiet_step (fail))
        refine wpQuiet_load_row (by kernel_rfl) 27 (.tmp 19) rfl ⟨g, 0, none⟩ rfl X _ (fun w' ⟨m, e⟩ => LG.out w' ⟨n + m, by rw [e, World.drewN_drewN]⟩) Try.underlying27 rfl HL.out (fun K hK => ?_)
        go_simp
        refine hK _ ?_
        clear hK K
        repeat (go_big_quiet_step (fail))
        refine wpQuiet_load_row (by kernel_rfl) 27 (.tmp 23) rfl ⟨k, 0, none⟩ rfl X _ (fun w' ⟨m, e⟩ => LK.out w' ⟨n + m, by rw [e, World.drewN_drewN]⟩) Try.underlying27 rfl HL.out (fun K hK => ?_)
        go_simp
        refine hK _ ?_
        clear hK K
        repeat (go_big_quiet_step (fail))
        refine wpQuiet_nil ?_
        intro _ hw'
        obtain ⟨nq, hw''⟩ := hw'
        subst hw''
        go_wp2
        go_roundw
        case rel => exact ⟨1, _, by omega, by go_num, rfl⟩
        case measure => simp [intOf]
      · obtain rfl : m = 1 := by omega
        go_wp2
        go_ret
        exact ⟨rfl, _, rfl⟩
end Go.Proofs.Ytgdlghieifadhaa
