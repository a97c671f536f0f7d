/-
  Ports: which of two places a datagram is rather for.
-/
import Derived.Test.YtbhplleaokncpaaPm4
import Derived.Deep.DrawnRows
set_option linter.unusedVariables false
namespace Go.Proofs.Ytbhplleaokncpaa
open Go.RowKit Go.Maps
attribute [local go_sem ↓] Go.wp_at_zero Go.wp_at_succ

def betI (p q : Pl) (d : Dg) : Int := orI (cmpI (oneI q.alone) (oneI p.alone)) (cmpI (oneI (q.a == d.to_)) (oneI (p.a == d.to_))) (cmpI p.id q.id)
set_option maxRecDepth 100000 in
set_option maxHeartbeats 3200000 in
theorem betC (B pb c2 c3 : Nat) (S : List Pl) (d : Dg) (p q : Pl) (w : World) (h : IsP w B pb S) (hp : p ∈ S) (hq : q ∈ S) (hwp : (Lit.int .i64 p.id).wf = true) (hwq : (Lit.int .i64 q.id).wf = true)
    (hc : Blk w c2 24 #[.pointer (some ⟨pb, 0, none⟩)]) (hd : Blk w c3 37 d.cs.toArray) :
    Calls Try.prog 32 #[.int .i64 p.id, .int .i64 q.id, .pointer (some ⟨c2, 0, none⟩), .pointer (some ⟨c3, 0, none⟩)] w fun e w' => e = .returned (.int .i64 (betI p q d)) ∧ Below w.heap.size w w' := by
  obtain ⟨m, G, c0, hlook, _, hblk⟩ := h.reads
  have r0 : w.cell? ⟨c2, 0, none⟩ = some (.pointer (some ⟨pb, 0, none⟩)) := hc.cell 0
  have r2 : w.cell? ⟨c3, 2, none⟩ = some (.int .u32 d.to_) := hd.cell 2
  have lp : ∀ n, (Instr.lookup 25 (.map m) (.int .i64 p.id) false).run Try.prog (w.drewN n) = .ok (.pointer (some ⟨G p.id, 0, none⟩)) (w.drewN n) := fun n => by
    rw [hlook n p.id hwp, ids_of hp]; rfl
  have lq : ∀ n, (Instr.lookup 25 (.map m) (.int .i64 q.id) false).run Try.prog (w.drewN n) = .ok (.pointer (some ⟨G q.id, 0, none⟩)) (w.drewN n) := fun n => by
    rw [hlook n q.id hwq, ids_of hq]; rfl
  have p0 : w.cell? ⟨G p.id, 0, none⟩ = some (.int .u32 p.a) := (hblk p hp).cell 0
  have p2 : w.cell? ⟨G p.id, 2, none⟩ = some (.bool p.alone) := (hblk p hp).cell 2
  have q0 : w.cell? ⟨G q.id, 0, none⟩ = some (.int .u32 q.a) := (hblk q hq).cell 0
  have q2 : w.cell? ⟨G q.id, 2, none⟩ = some (.bool q.alone) := (hblk q hq).cell 2
  clear hlook hc hd hblk h hp hq hwp hwq
  go_enter Try.func32, Try.ntmps32
  go_wp2
  go_quiet (fail)
  go_wp2
  go_region_held3 (fun w' => w'.cell? ⟨G p.id, 0, none⟩ = some (.int .u32 p.a) ∧ w'.cell? ⟨G p.id, 2, none⟩ = some (.bool p.alone) ∧ w'.cell? ⟨G q.id, 0, none⟩ = some (.int .u32 q.a) ∧ w'.cell? ⟨G q.id, 2, none⟩ = some (.bool q.alone) ∧ w'.cell? ⟨c3, 2, none⟩ = some (.int .u32 d.to_)) (go_keep)
    (first
      | (go_at_call 35; refine (oneC _ _).mono ?_; rintro e w' ⟨rfl, rfl⟩)
      | (go_at_call 34; refine (cmpC _ _ _).mono ?_; rintro e w' ⟨rfl, rfl⟩)
      | (go_at_call 33; refine (orC _ _ _ _ _ (by exact Blk.new _ _ _)).mono ?_; rintro e w' ⟨rfl, rfl⟩))
  go_wp2
  go_ret
  exact ⟨rfl, al (dn (rf w) _) _⟩
end Go.Proofs.Ytbhplleaokncpaa
