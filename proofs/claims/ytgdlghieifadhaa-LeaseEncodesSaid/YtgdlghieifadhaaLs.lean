/-
  A lease's client: what it does by the plain rules, and where it lies.
-/
import Derived.Test.YtgdlghieifadhaaMem
set_option linter.unusedVariables false
namespace Go.Proofs.Ytgdlghieifadhaa
open Go.RowKit

structure M6 where
  (a b c d e f : Int)
def M6.l (m : M6) : List Int := [m.a, m.b, m.c, m.d, m.e, m.f]
def M6.v (m : M6) : Value := .agg #[.int .u8 m.a, .int .u8 m.b, .int .u8 m.c, .int .u8 m.d, .int .u8 m.e, .int .u8 m.f]
structure Ls where
  (op id yours : Int)
  (cl : M6)
  (ty server asked time mask router resolver : Int)
def Ls.cs (m : Ls) : List Value := [.int .i64 m.op, .int .u32 m.id, .int .u32 m.yours, .int .u8 m.cl.a, .int .u8 m.cl.b, .int .u8 m.cl.c, .int .u8 m.cl.d, .int .u8 m.cl.e, .int .u8 m.cl.f,
  .int .i64 m.ty, .int .u32 m.server, .int .u32 m.asked, .int .i64 m.time, .int .u32 m.mask, .int .u32 m.router, .int .u32 m.resolver]
def zeroM : M6 := ⟨0, 0, 0, 0, 0, 0⟩
def zeroL : Ls := ⟨0, 0, 0, zeroM, 0, 0, 0, 0, 0, 0, 0⟩
theorem Ls.one (m : Ls) : ∀ v ∈ m.cs, v.oneCell' = true := by
  intro v hv
  simp only [Ls.cs, List.mem_cons, List.not_mem_nil, or_false] at hv
  rcases hv with rfl | rfl | rfl | rfl | rfl | rfl | rfl | rfl | rfl | rfl | rfl | rfl | rfl | rfl | rfl | rfl <;> rfl
structure St where
  (st id next tried : Int)
  (offer lease : Ls)
  (fr : Int)
def says (mac : M6) (id k a sv : Int) : Ls := ⟨1, id, 0, mac, k, sv, a, 0, 0, 0, 0⟩

def beginS (s : St) (now draw : Int) : St := ⟨1, draw % 4294967296, now + 40, 1, zeroL, zeroL, s.fr⟩
def sameM (mac : M6) (s : St) : Ls := if s.st = 1 then says mac s.id 1 0 0 else if s.st = 2 then says mac s.id 3 s.offer.yours s.offer.server else says mac s.id 3 s.lease.yours 0
def bindL (m : Ls) (sv : Int) : Ls := { m with server := if m.server = 0 then sv else m.server, time := min (if m.time < 1 then 3600 else m.time) 2147483647 }
def bindS (s : St) (m : Ls) (sv now : Int) : St := { s with st := 3, lease := bindL m sv, fr := now, next := now + 10 * (bindL m sv).time / 2 }
-- what holds of a client
structure St.ok (s : St) : Prop where
  st0 : 0 ≤ s.st
  st5 : s.st ≤ 5
  t0 : 0 ≤ s.lease.time
  t1 : s.lease.time ≤ 2147483647
  f0 : 0 ≤ s.fr
  f1 : s.fr ≤ 1152921504606846976
  n0 : 0 ≤ s.tried
  n1 : s.tried ≤ 4
def clCs (b : Nat) (mac : M6) (s : St) : List Value :=
  [.int .u8 mac.a, .int .u8 mac.b, .int .u8 mac.c, .int .u8 mac.d, .int .u8 mac.e, .int .u8 mac.f, .int .i64 s.st, .int .u32 s.id, .int .i64 s.next, .int .i64 s.tried] ++ s.offer.cs ++ s.lease.cs ++
  [.int .i64 s.fr, .func (Fn.func 29) #[.pointer (some ⟨b, 0, none⟩)] #[], .func (Fn.func 30) #[.pointer (some ⟨b, 0, none⟩)] #[], .func (Fn.func 30) #[.pointer (some ⟨b, 0, none⟩)] #[],
   .func (Fn.func 31) #[.pointer (some ⟨b, 0, none⟩)] #[], .func (Fn.func 31) #[.pointer (some ⟨b, 0, none⟩)] #[], .func (Fn.func 31) #[.pointer (some ⟨b, 0, none⟩)] #[]]
abbrev IsC (w : World) (b : Nat) (mac : M6) (s : St) : Prop := Blk w b 63 (clCs b mac s).toArray
theorem IsC.nx {w w' : World} {b : Nat} {mac : M6} {s : St} (h : IsC w b mac s) (k : Below w.heap.size w w') : IsC w' b mac s := Blk.nx h k
-- a message that is handed back
def Msg (w : World) (B : Nat) (v : Value) (x : Ls) : Prop := ∃ g, v = .slice (some ⟨g, 0, none⟩) 1 1 ∧ B ≤ g ∧ Blk w g 27 x.cs.toArray
def Out (w : World) (B : Nat) (v : Value) : Option Ls → Prop
  | none => v = .slice none 0 0
  | some x => Msg w B v x

theorem plus (a b : Int) (w : World) (h0 : 0 ≤ a) (h1 : a ≤ 2305843009213693952) (h2 : 0 ≤ b) (h3 : b ≤ 2305843009213693952) :
    Calls Try.prog 33 #[.int .i64 a, .int .i64 b] w fun e w' => e = .returned (.int .i64 (a + b)) ∧ w' = w := by
  by_cases hb : 0 < b
  · have i1 : ¬ 9223372036854775807 - b < a := by omega
    go_enter Try.func33, Try.ntmps33
    go_wp2
    go_ret
    exact ⟨rfl, rfl⟩
  · go_enter Try.func33, Try.ntmps33
    go_wp2
    go_ret
    exact ⟨rfl, rfl⟩
theorem hasC (b : Nat) (mac : M6) (s : St) (w : World) (h : IsC w b mac s) :
    Calls Try.prog 36 #[.pointer (some ⟨b, 0, none⟩)] w fun e w' => e = .returned (.bool (decide (3 ≤ s.st))) ∧ w' = w := by
  have c6 : w.cell? ⟨b, 6, none⟩ = some (.int .i64 s.st) := h.cell 6
  go_enter Try.func36, Try.ntmps36
  go_wp2
  go_ret
  exact ⟨rfl, rfl⟩
theorem timeC (b : Nat) (mac : M6) (s : St) (w : World) (h : IsC w b mac s) (hs : s.ok) :
    Calls Try.prog 37 #[.pointer (some ⟨b, 0, none⟩)] w fun e w' => e = .returned (.int .i64 (10 * s.lease.time)) ∧ w' = w := by
  have c6 : w.cell? ⟨b, 38, none⟩ = some (.int .i64 s.lease.time) := h.cell 38
  have t0 := hs.t0
  have t1 := hs.t1
  go_enter Try.func37, Try.ntmps37
  go_wp2
  go_ret
  exact ⟨rfl, rfl⟩
theorem stateC (b : Nat) (mac : M6) (s : St) (w : World) (h : IsC w b mac s) :
    Calls Try.prog 13 #[.pointer (some ⟨b, 0, none⟩)] w fun e w' => e = .returned (.int .i64 s.st) ∧ w' = w := by
  have c6 : w.cell? ⟨b, 6, none⟩ = some (.int .i64 s.st) := h.cell 6
  go_enter Try.func13, Try.ntmps13
  go_wp2
  go_ret
  exact ⟨rfl, rfl⟩
theorem saysC (b : Nat) (mac : M6) (s : St) (k a sv : Int) (w : World) (h : IsC w b mac s) :
    Calls Try.prog 38 #[.pointer (some ⟨b, 0, none⟩), .int .i64 k, .int .u32 a, .int .u32 sv] w fun e w' => ∃ v, e = .returned v ∧ Msg w' w.heap.size v (says mac s.id k a sv) ∧ Below w.heap.size w w' := by
  have c0 : w.cell? ⟨b, 0, none⟩ = some (.int .u8 mac.a) := h.cell 0
  have c1 : w.cell? ⟨b, 1, none⟩ = some (.int .u8 mac.b) := h.cell 1
  have c2 : w.cell? ⟨b, 2, none⟩ = some (.int .u8 mac.c) := h.cell 2
  have c3 : w.cell? ⟨b, 3, none⟩ = some (.int .u8 mac.d) := h.cell 3
  have c4 : w.cell? ⟨b, 4, none⟩ = some (.int .u8 mac.e) := h.cell 4
  have c5 : w.cell? ⟨b, 5, none⟩ = some (.int .u8 mac.f) := h.cell 5
  have c7 : w.cell? ⟨b, 7, none⟩ = some (.int .u32 s.id) := h.cell 7
  go_enter Try.func38, Try.ntmps38
  go_wp2
  go_region_held3 (fun w' => w'.cell? ⟨b, 0, none⟩ = some (.int .u8 mac.a) ∧ w'.cell? ⟨b, 1, none⟩ = some (.int .u8 mac.b) ∧ w'.cell? ⟨b, 2, none⟩ = some (.int .u8 mac.c) ∧ w'.cell? ⟨b, 3, none⟩ = some (.int .u8 mac.d) ∧ w'.cell? ⟨b, 4, none⟩ = some (.int .u8 mac.e) ∧ w'.cell? ⟨b, 5, none⟩ = some (.int .u8 mac.f) ∧ w'.cell? ⟨b, 7, none⟩ = some (.int .u32 s.id)) (go_keep) (fail)
  go_wp2
  go_ret
  exact ⟨_, rfl, ⟨_, rfl, Nat.le_refl _, blk_at _ _ _ rfl⟩, (rf w).drew.alloc (Nat.le_refl _) _⟩
end Go.Proofs.Ytgdlghieifadhaa
