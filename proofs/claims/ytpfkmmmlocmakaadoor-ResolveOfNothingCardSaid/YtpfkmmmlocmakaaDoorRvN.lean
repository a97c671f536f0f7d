/-
  Resolve: a new resolver; what is kept of no name.
-/
import Derived.Test.YtpfkmmmlocmakaaDoorRvC
import Derived.Test.YtpfkmmmlocmakaaDoorRvK
import Derived.Maps.OwnOps
import Derived.Maps.OwnSet
import Derived.StringKeys
set_option linter.unusedVariables false
namespace Go.Proofs.YtpfkmmmlocmakaaDoor
open Go.RowKit Go.Maps

-- how an element of the map reads: the number of its block
def pR : Value → Option (DataW Unit × List MemPlace)
  | .pointer none => some (.nil, [])
  | .pointer (some ⟨g, o, s⟩) => if o = 0 ∧ s = none then some (.lit (.int .i64 g), []) else none
  | _ => none
def pV : Option Nat → Value
  | none => .pointer none
  | some g => .pointer (some ⟨g, 0, none⟩)
def pD : Option Nat → DataW Unit
  | none => .nil
  | some g => .lit (.int .i64 g)
theorem pR_mk (o : Option Nat) : pR (pV o) = some (pD o, []) := by
  cases o <;> simp [pV, pR, pD]
theorem pR_inv (v : Value) (y : DataW Unit × List MemPlace) (h : pR v = some y) : ∃ o, v = pV o ∧ y = (pD o, []) := by
  unfold pR at h
  split at h
  · injection h with h; exact ⟨none, rfl, h.symm⟩
  · split at h
    · rename_i hh
      obtain ⟨rfl, rfl⟩ := hh
      injection h with h; exact ⟨some _, rfl, h.symm⟩
    · cases h
  · cases h
theorem pD_inj {a b : Option Nat} (h : pD a = pD b) : a = b := by
  cases a <;> cases b <;> simp [pD] at h ⊢
  omega
theorem strK : Keyed Tryd.prog 9 := string_keyed Tryd.underlying9
theorem zeroE (w : World) : (zeroValue 74).run Tryd.prog w = .ok (.pointer none) w := by kernel_rfl
-- nothing is kept
def KE (w : World) (km : Nat) : Prop := w.ownsMap Tryd.prog 9 pR km 0 (.map [])
theorem KE.keep {w w' : World} {km : Nat} {ts : List TypeId} (h : KE w km) (k : KeepT w.heap.size ts w w') (hn : 60 ∉ ts) : KE w' km := by
  have hlt := World.ownsMap.lt h
  obtain ⟨es, c, hb, r⟩ := h
  exact ⟨es, c, k km _ hlt hb hn, r⟩
theorem KE.nx {w w' : World} {km : Nat} (h : KE w km) (k : Below w.heap.size w w') : KE w' km := h.keep (KeepT.of_below (ts := []) k (Nat.le_refl _)) (by simp)
theorem KE.look {w : World} {km : Nat} (h : KE w km) (s : ByteArray) (hs : s.size ≤ maxLen) :
    (Instr.lookup 60 (.map (some km)) (.string s) false).run Tryd.prog w = .ok (.pointer none) w := by
  have hk : keyOf Tryd.prog 9 (.string s) = some (.string s.data.toList) := Go.WideMaps.keyOf_string_mk Tryd.underlying9 hs
  obtain ⟨v, ps, hrun, hv⟩ := World.ownsMap.lookup h strK Tryd.underlying60 (zeroE w) (pR_mk none) hk
  obtain ⟨o, rfl, ho⟩ := pR_inv v _ hv
  rw [hrun]
  have e : pD none = pD o := congrArg Prod.fst ho
  obtain rfl := pD_inj e
  rfl
set_option maxRecDepth 100000 in
set_option maxHeartbeats 800000 in
theorem newC (w : World) (A : Option Addr) (sv : List Int) (c : Nat) (port : Int) (hr : Reads w w.heap.size 1 A sv.length (sv.map (Value.int .u32))) (h0 : A = none → sv.length = 0) (h1 : 1 ≤ sv.length) (h3 : sv.length ≤ 3) (p1 : 1 ≤ port) (p2 : port ≤ 65535) :
    Calls Tryd.prog 10 #[.slice A sv.length c, .int .i64 port] w fun e w' => ∃ z rb, e = .returned (.tuple #[ptr rb, .int .i64 0]) ∧ IsRv w' w.heap.size rb z ∧ KE w' z.km ∧ z.sv = sv ∧ z.port = port ∧ z.sent = 0 ∧ z.qs = [] ∧ z.QA = none ∧ z.qc = 0 ∧ z.age = .slice none 0 0 ∧ Below w.heap.size w w' := by
  have HC := Lib.hid (cloneAd A sv.length c _ w hr (one_all sv (fun _ => rfl)) (by omega) h0)
  have hmk : ∀ w, (Instr.makeMap 60 none).run Tryd.prog w = .ok (.map (some w.heap.size)) (w.alloc (.map #[] 0)) := fun w => by simp [Instr.makeMap]
  have l1 : ¬ (sv.length : Int) < 1 := by omega
  have l3 : ¬ (3 : Int) < sv.length := by omega
  have l4 : ¬ port < 1 := by omega
  have l5 : ¬ 65535 < port := by omega
  clear hr h0 h1 h3 p1 p2
  go_enter Tryd.func10, Tryd.ntmps10
  go_wp2_with fail
  refine HC.out.mono ?_
  rintro e w1 ⟨A1, c1, rfl, own, b1⟩
  have OW := Lib.hid own
  have B1 := Lib.hid b1
  have hs1 := b1.size
  clear own b1
  go_wp2
  go_ret2
  have KM : KE (w1.alloc (.map #[] 0)) w1.heap.size := World.ownsMap_made w1 _ _ _
  have k2 : Below (w1.alloc (.map #[] 0)).heap.size (w1.alloc (.map #[] 0)) ((w1.alloc (.map #[] 0)).alloc (.cells #[.slice A1 sv.length c1, .int .i64 port, .int .i64 0, .slice none 0 0, .map (some w1.heap.size), .slice none 0 0] 64)) := al (rf _) _
  refine ⟨⟨sv, A1, c1, port, 0, [], none, 0, w1.heap.size, .slice none 0 0⟩, w1.heap.size + 1, rfl, ⟨blk_at _ _ _ (by simp), by omega, ?_, World.ownsRow_nil _ _ _ _, by simp, by simp⟩, KM.nx k2, rfl, rfl, rfl, rfl, rfl, rfl, rfl, ?_⟩
  · exact (OW.out.alloc _).alloc _
  · exact nx B1.out (al (al (rf w1) _) _)
end Go.Proofs.YtpfkmmmlocmakaaDoor
