/-
  Ports in memory: a map from ids to places.
-/
import Derived.Test.YtbhplleaokncpaaMem
import Derived.Maps.OwnOps
import Derived.Maps.OwnSet
import Derived.Maps.RangeWalk
import Derived.Laws.IdiomRangeMap
set_option linter.unusedVariables false
namespace Go.Proofs.Ytbhplleaokncpaa
open Go.RowKit Go.Maps

-- how an element reads: the number of its block
def pR : Value → Option (DataW Unit × List MemPlace)
  | .pointer none => some (.nil, [])
  | .pointer (some ⟨g, o, s⟩) => if o = 0 ∧ s = none then some (.lit (.int .i64 g), []) else none
  | _ => none
def pV : Option Nat → Value
  | none => .pointer none
  | some g => .pointer (some ⟨g, 0, none⟩)
def pD : Option Nat → DataW Unit
  | none => .nil
  | some g => .lit (.int .i64 g)
theorem pR_mk (o : Option Nat) : pR (pV o) = some (pD o, []) := by
  cases o <;> simp [pV, pR, pD]
theorem pR_inv (v : Value) (y : DataW Unit × List MemPlace) (h : pR v = some y) : ∃ o, v = pV o ∧ y = (pD o, []) := by
  unfold pR at h
  split at h
  · injection h with h; exact ⟨none, rfl, h.symm⟩
  · split at h
    · rename_i hh
      obtain ⟨rfl, rfl⟩ := hh
      injection h with h; exact ⟨some _, rfl, h.symm⟩
    · cases h
  · cases h
theorem pD_inj {a b : Option Nat} (h : pD a = pD b) : a = b := by
  cases a <;> cases b <;> simp [pD] at h ⊢
  omega
theorem intK : Keyed Try.prog 3 := int_keyed Try.underlying3
theorem key_mk {x : Int} (h : (Lit.int .i64 x).wf = true) : keyOf Try.prog 3 (.int .i64 x) = some (.int .i64 x) := keyOf_int_mk Try.underlying3 h
theorem zeroP (w : World) : (zeroValue 73).run Try.prog w = .ok (.pointer none) w := by kernel_rfl

structure Pl where
  (id a port : Int)
  (alone : Bool)
  (fr of : Int)
def Pl.cs (p : Pl) : List Value := [.int .u32 p.a, .int .i64 p.port, .bool p.alone, .int .u32 p.fr, .int .i64 p.of]
def ids (S : List Pl) (x : Int) : Bool := S.any fun p => p.id == x
theorem ids_mem {S : List Pl} {x : Int} (h : ids S x = true) : ∃ p ∈ S, p.id = x := by
  obtain ⟨p, hp, e⟩ := List.any_eq_true.1 h
  exact ⟨p, hp, by simpa using e⟩
theorem ids_of {S : List Pl} {p : Pl} (h : p ∈ S) : ids S p.id = true := List.any_eq_true.2 ⟨p, h, by simp⟩
theorem ids_not {S : List Pl} {x : Int} (h : ids S x = false) : ∀ p ∈ S, p.id ≠ x := by
  intro p hp e
  have := ids_of hp
  rw [e, h] at this; cases this

-- the map at block mb, not nil
structure PmOk (w : World) (B mb : Nat) (S : List Pl) (G : Int → Nat) (D : DataW Unit) : Prop where
  own : w.ownsMap Try.prog 3 pR mb S.length D
  size : Maps.size D = S.length
  has : ∀ x : Int, (Lit.int .i64 x).wf = true → Maps.has D (.int .i64 x) = ids S x
  at_ : ∀ p ∈ S, ∀ z, D.atKey (.int .i64 p.id) z = pD (some (G p.id))
  apart : S.Pairwise fun p q => p.id ≠ q.id
  wf : ∀ p ∈ S, (Lit.int .i64 p.id).wf = true
  nn : ∀ p ∈ S, 0 ≤ p.id
  lo : ∀ p ∈ S, B ≤ G p.id
  blk : ∀ p ∈ S, Blk w (G p.id) 75 p.cs.toArray
  inj : ∀ p ∈ S, ∀ q ∈ S, G p.id = G q.id → p.id = q.id
  mlo : B ≤ mb
theorem tighten {w : World} {mb n : Nat} {D : DataW Unit} (h : w.ownsMap Try.prog 3 pR mb n D) : w.ownsMap Try.prog 3 pR mb (Maps.size D) D := by
  obtain ⟨es, clock, hb, F, hs, hD⟩ := h
  refine ⟨es, clock, hb, F, ?_, hD⟩
  rw [hD]; simp [Maps.size, length_sorted]
theorem PmOk.kept {w w' : World} {B mb : Nat} {S : List Pl} {G : Int → Nat} {D : DataW Unit} (h : PmOk w B mb S G D) {row : Option Nat} (hg : w.grownBy w' row) (h1 : some mb ≠ row) (h2 : ∀ p ∈ S, some (G p.id) ≠ row) : PmOk w' B mb S G D :=
  ⟨h.own.kept hg h1, h.size, h.has, h.at_, h.apart, h.wf, h.nn, h.lo, fun p hp => (h.blk p hp).grown hg (h2 p hp), h.inj, h.mlo⟩
theorem PmOk.nx {w w' : World} {B mb : Nat} {S : List Pl} {G : Int → Nat} {D : DataW Unit} (h : PmOk w B mb S G D) (hb : Below w.heap.size w w') : PmOk w' B mb S G D :=
  h.kept (row := none) ⟨hb.os, hb.tape, hb.output, hb.size, fun i hi _ => hb.block i hi⟩ (by simp) (by simp)
theorem PmOk.look {w : World} {B mb : Nat} {S : List Pl} {G : Int → Nat} {D : DataW Unit} (h : PmOk w B mb S G D) {x : Int} (hx : (Lit.int .i64 x).wf = true) :
    (Instr.lookup 25 (.map (some mb)) (.int .i64 x) false).run Try.prog w = .ok (if ids S x then .pointer (some ⟨G x, 0, none⟩) else .pointer none) w := by
  obtain ⟨v, ps, hrun, hv⟩ := h.own.lookup intK Try.underlying25 (zeroP w) (pR_mk none) (key_mk hx)
  obtain ⟨o, rfl, ho⟩ := pR_inv v _ hv
  rw [hrun]
  cases hi : ids S x
  · rw [Maps.atKey_of_not_has (by rw [h.has x hx]; exact hi)] at ho
    have e : pD none = pD o := congrArg Prod.fst ho
    obtain rfl := pD_inj e
    rfl
  · obtain ⟨p, hp, rfl⟩ := ids_mem hi
    rw [h.at_ p hp] at ho
    have e : pD (some (G p.id)) = pD o := congrArg Prod.fst ho
    obtain rfl := pD_inj e
    rfl
theorem PmOk.len_ {w : World} {B mb : Nat} {S : List Pl} {G : Int → Nat} {D : DataW Unit} (h : PmOk w B mb S G D) (ty : TypeId) :
    (Builtin.len_ #[25] ty #[.map (some mb)]).run Try.prog w = .ok (.int .i64 S.length) w := by
  rw [h.own.len Try.underlying25 ty, h.size]

-- ports at block pb
def IsP (w : World) (B pb : Nat) (S : List Pl) : Prop :=
  B ≤ pb ∧ ((Blk w pb 27 #[.map none] ∧ S = []) ∨ ∃ mb G D, Blk w pb 27 #[.map (some mb)] ∧ PmOk w B mb S G D ∧ mb ≠ pb)
theorem IsP.nx {w w' : World} {B pb : Nat} {S : List Pl} (h : IsP w B pb S) (hb : Below w.heap.size w w') : IsP w' B pb S := by
  obtain ⟨h0, ⟨h1, h2⟩ | ⟨mb, G, D, h1, h2, h3⟩⟩ := h
  · exact ⟨h0, .inl ⟨h1.nx hb, h2⟩⟩
  · exact ⟨h0, .inr ⟨mb, G, D, h1.nx hb, h2.nx hb, h3⟩⟩
-- what a lookup and a length come to, nil or not
theorem IsP.reads {w : World} {B pb : Nat} {S : List Pl} (h : IsP w B pb S) : ∃ (m : Option Nat) (G : Int → Nat), w.cell? ⟨pb, 0, none⟩ = some (.map m) ∧
    (∀ (n : Nat) (x : Int), (Lit.int .i64 x).wf = true → (Instr.lookup 25 (.map m) (.int .i64 x) false).run Try.prog (w.drewN n) = .ok (if ids S x then .pointer (some ⟨G x, 0, none⟩) else .pointer none) (w.drewN n)) ∧
    (∀ ty, (Builtin.len_ #[25] ty #[.map m]).run Try.prog w = .ok (.int .i64 S.length) w) ∧
    (∀ p ∈ S, Blk w (G p.id) 75 p.cs.toArray) := by
  obtain ⟨_, ⟨h1, rfl⟩ | ⟨mb, G, D, h1, h2, h3⟩⟩ := h
  · exact ⟨none, fun _ => 0, h1.cell 0, fun n x hx => (Maps.look_nil false intK Try.underlying25 (zeroP _) (key_mk hx)).trans rfl, fun ty => Maps.len_nil Try.underlying25 ty, by simp⟩
  · exact ⟨some mb, G, h1.cell 0, fun n x hx => (h2.nx (dn (rf w) n)).look hx, h2.len_, h2.blk⟩

def mayR (S : List Pl) (id : Int) : Int := if id < 0 then 1 else if ids S id then 8 else if 64 ≤ S.length then 6 else 0
set_option maxHeartbeats 800000 in
theorem mayC (B pb : Nat) (S : List Pl) (id : Int) (w : World) (h : IsP w B pb S) (hid : (Lit.int .i64 id).wf = true) (hS : S.length ≤ 64) :
    Calls Try.prog 30 #[.pointer (some ⟨pb, 0, none⟩), .int .i64 id] w fun e w' => e = .returned (.int .i64 (mayR S id)) ∧ w' = w := by
  obtain ⟨m, G, c0, hlook, hlen, _⟩ := h.reads
  have hl : (Instr.lookup 25 (.map m) (.int .i64 id) false).run Try.prog w = .ok (if ids S id then .pointer (some ⟨G id, 0, none⟩) else .pointer none) w := hlook 0 id hid
  unfold mayR
  clear hlook h
  by_cases h0 : id < 0
  · rw [if_pos h0]
    clear hl hlen
    go_enter Try.func30, Try.ntmps30
    go_wp2
    go_ret
    exact ⟨rfl, rfl⟩
  rw [if_neg h0]
  cases h1 : ids S id
  · rw [h1] at hl
    simp only [Bool.false_eq_true, if_false] at hl ⊢
    have HS := Lib.hid hS
    clear h1 hS
    by_cases h2 : 64 ≤ S.length
    · rw [if_pos h2]
      have h3 : (64 : Int) ≤ (S.length : Int) := by omega
      go_enter Try.func30, Try.ntmps30
      go_wp2
      go_ret
      exact ⟨rfl, rfl⟩
    · rw [if_neg h2]
      have h3 : ¬ (64 : Int) ≤ (S.length : Int) := by omega
      go_enter Try.func30, Try.ntmps30
      go_wp2
      go_ret
      exact ⟨rfl, rfl⟩
  · rw [h1] at hl
    simp only [if_true] at hl ⊢
    clear h1
    go_enter Try.func30, Try.ntmps30
    go_wp2
    go_ret
    exact ⟨rfl, rfl⟩
end Go.Proofs.Ytbhplleaokncpaa
