/-
  Resolve: have, where nothing is kept.
-/
import Derived.Test.YtpfkmmmlocmakaaDoorRvN
import Derived.Test.YtpfkmmmlocmakaaDoorLex
set_option linter.unusedVariables false
namespace Go.Proofs.YtpfkmmmlocmakaaDoor
open Go.RowKit Go.Maps

def lowS (a : ByteArray) : ByteArray := ⟨(a.data.toList.map fun c => UInt8.ofNat (lowN c.toNat)).toArray⟩
theorem lowS_size (a : ByteArray) : (lowS a).size = a.size := by
  show (a.data.toList.map fun c => UInt8.ofNat (lowN c.toNat)).toArray.size = a.data.size
  simp
theorem keyS (a : ByteArray) (w : World) (ha : a.size ≤ 1099511627776) : Calls Tryd.prog 60 #[.string a] w fun e w' => e = .returned (.string (lowS a)) ∧ Below w.heap.size w w' :=
  (keyC a w ha).mono fun e w' ⟨s, he, hs, hb⟩ => ⟨by rw [he]; congr 2; exact bytes_ext (by rw [hs]; rfl), hb⟩
set_option maxRecDepth 100000 in
set_option maxHeartbeats 800000 in
theorem haveE (w : World) (wb rb km : Nat) (s : ByteArray) (hs : s.size ≤ 1000000) (WC RC : Array Value) (hw : Blk w wb 71 WC) (hw0 : WC[0]? = some (.pointer (some ⟨rb, 0, none⟩))) (hr : Blk w rb 64 RC) (hr4 : RC[4]? = some (.map (some km))) (hk : KE w km) :
    Calls Tryd.prog 44 #[.pointer (some ⟨wb, 0, none⟩), .string s] w fun e w' => e = .returned (.pointer none) ∧ Below w.heap.size w w' := by
  have K0 : ∀ x : Bw w, x.w.cell? ⟨wb, 0, none⟩ = some (.pointer (some ⟨rb, 0, none⟩)) := fun x => ((hw.nx x.h).cell 0).trans hw0
  have K4 : ∀ x : Bw w, x.w.cell? ⟨rb, 4, none⟩ = some (.map (some km)) := fun x => ((hr.nx x.h).cell 4).trans hr4
  have KL : ∀ x : Bw w, (Instr.lookup 60 (.map (some km)) (.string (lowS s)) false).run Tryd.prog x.w = .ok (.pointer none) x.w := fun x => (hk.nx x.h).look _ (by rw [lowS_size]; unfold maxLen; omega)
  clear hw hw0 hr hr4 hk
  go_enter Tryd.func44, Tryd.ntmps44
  go_wp2
  refine wp_region_below (by kernel_rfl) (by kernel_rfl) ?_
  repeat (go_big_quiet_step (first
    | (go_at_call 60; exact Calls.bw _ (keyS s _ (by omega)))))
  refine wpQuiet_nil ?_
  intro _ hw'
  obtain ⟨y, rfl⟩ := hw'
  have HY := Lib.hid y.h
  go_wp2
  go_quiet (fail)
  go_wp2
  go_ret
  exact ⟨rfl, dn HY.out _⟩
end Go.Proofs.YtpfkmmmlocmakaaDoor
