/-
  Ports: the reference's ports, a slice of places; spot, taken.
-/
import Derived.Test.YtbhplleaokncpaaPmK
import Derived.Test.YtbhplleaokncpaaOpn
import Derived.Test.YtbhplleaokncpaaNwt
set_option linter.unusedVariables false
namespace Go.Proofs.Ytbhplleaokncpaa
open Go.RowKit

structure Rp where
  id : Int
  port : Int
  a : Int
  peer : Int
  pp : Int
def Rp.cs (p : Rp) : List Value := [.int .i64 p.id, .int .i64 p.port, .int .u32 p.a, .int .u32 p.peer, .int .i64 p.pp]
def rcs (L : List Rp) : List Value := L.flatMap Rp.cs
theorem rcs_len (L : List Rp) : (rcs L).length = L.length * 5 := by
  unfold rcs
  induction L with
  | nil => rfl
  | cons p L ih => simp only [List.flatMap_cons, List.length_append, ih, List.length_cons, Rp.cs, List.length_nil]; omega
theorem rcs_at : ∀ (L : List Rp) (k j : Nat) (q : Rp), L[k]? = some q → j < 5 → (rcs L)[k * 5 + j]? = q.cs[j]?
  | [], k, j, q, h, _ => by simp at h
  | p :: L, 0, j, q, h, hj => by
    simp only [List.getElem?_cons_zero, Option.some.injEq] at h
    subst h
    simp only [rcs, List.flatMap_cons, Nat.zero_mul, Nat.zero_add]
    exact List.getElem?_append_left (by simpa [Rp.cs] using hj)
  | p :: L, k + 1, j, q, h, hj => by
    simp only [List.getElem?_cons_succ] at h
    simp only [rcs, List.flatMap_cons]
    rw [List.getElem?_append_right (by simp [Rp.cs]; omega), show (k + 1) * 5 + j - (Rp.cs p).length = k * 5 + j by simp [Rp.cs]; omega]
    exact rcs_at L k j q h hj
theorem rcs_app (L M : List Rp) : rcs (L ++ M) = rcs L ++ rcs M := by simp [rcs]
theorem rcs_one (L : List Rp) : ∀ v ∈ rcs L, v.oneCell' = true := by
  intro v hv
  obtain ⟨p, _, h⟩ := List.mem_flatMap.1 hv
  simp only [Rp.cs, List.mem_cons, List.not_mem_nil, or_false] at h
  rcases h with rfl | rfl | rfl | rfl | rfl <;> rfl
structure IsRf (w : World) (B rb : Nat) (L : List Rp) : Prop where
  lo : B ≤ rb
  row : ∃ v, Blk w rb 46 #[v] ∧ w.ownsRow B 97 5 v L.length (rcs L)
theorem own_keep {w w' : World} {base : Nat} {e : TypeId} {size n : Nat} {v : Value} {xs : List Value} (h : w.ownsRow base e size v n xs) (k : ∀ (g : Nat) (cur : Array Value), Blk w g e cur → Blk w' g e cur) : w'.ownsRow base e size v n xs := by
  refine ⟨h.1, ?_⟩
  rcases h.2 with h0 | ⟨g, cap, cur, rfl, hb, hg, hr⟩
  · exact .inl h0
  · exact .inr ⟨g, cap, cur, rfl, hb, k g cur hg, hr⟩
theorem IsRf.nx {w w' : World} {B rb : Nat} {L : List Rp} (h : IsRf w B rb L) (k : Below w.heap.size w w') : IsRf w' B rb L := by
  obtain ⟨v, h1, h2⟩ := h.row
  exact ⟨h.lo, v, h1.nx k, own_nx h2 k⟩
-- kept by the program's ports, which touch their own kinds of memory alone
theorem IsRf.keeps {w w' : World} {B rb : Nat} {L : List Rp} (h : IsRf w B rb L) (k : Keeps badP w w') : IsRf w' B rb L := by
  obtain ⟨v, h1, h2⟩ := h.row
  exact ⟨h.lo, v, k.blk h1 (by simp [badP]), own_keep h2 fun g cur hg => k.blk hg (by simp [badP])⟩
theorem IsRf.look {w : World} {B rb : Nat} {L : List Rp} (h : IsRf w B rb L) : ∃ A c, w.cell? ⟨rb, 0, none⟩ = some (.slice A L.length c) ∧ w.frozen? ⟨rb, 0, none⟩ = false ∧ L.length ≤ c ∧
    ∀ (k : Nat) (q : Rp), L[k]? = some q → ∃ g, A = some ⟨g, 0, none⟩ ∧ B ≤ g ∧ g < w.heap.size ∧ g ≠ rb ∧ (∀ j, j < 5 → w.cell? ⟨g, k * 5 + j, none⟩ = q.cs[j]?) ∧ (∀ j, w.frozen? ⟨g, j, none⟩ = false) := by
  obtain ⟨v, hB, hO⟩ := h.row
  have c0 : w.cell? ⟨rb, 0, none⟩ = some v := hB.cell 0
  have f0 := hB.frozen 0
  rcases hO.2 with ⟨rfl, h0⟩ | ⟨g, cap, cur, rfl, hb, hg, hn, hm, hs, ht⟩
  · have hL : L = [] := List.eq_nil_of_length_eq_zero h0
    subst hL
    exact ⟨none, 0, c0, f0, Nat.le_refl _, fun k q hk => by simp at hk⟩
  · have hgB : Blk w g 97 cur := hg
    refine ⟨some ⟨g, 0, none⟩, cap, c0, f0, hn, fun k q hk => ⟨g, rfl, hb, hgB.lt, fun e => ?_, fun j hj => ?_, fun j => hgB.frozen j⟩⟩
    · subst e
      have := hgB.symm.trans hB
      simp at this
    · have hkl : k < L.length := (List.getElem?_eq_some_iff.1 hk).1
      rw [hgB.cell, ← rcs_at L k j q hk hj, ← ht, List.getElem?_take_of_lt (by omega), Array.getElem?_toList]
def spotR (L : List Rp) (id : Int) : Int := match L.findIdx? (fun p => p.id == id) with
  | some i => i
  | none => -1
theorem spot_hit {L : List Rp} {id : Int} {k : Nat} {q : Rp} (hq : L[k]? = some q) (h : q.id = id) (hb : ∀ (j : Nat) (p : Rp), L[j]? = some p → j < k → p.id ≠ id) : spotR L id = k := by
  have hk := (List.getElem?_eq_some_iff.1 hq).1
  have hqe := (List.getElem?_eq_some_iff.1 hq).2
  have : L.findIdx? (fun p => p.id == id) = some k := by
    rw [List.findIdx?_eq_some_iff_getElem]
    refine ⟨hk, by simp [hqe, h], fun j hj => ?_⟩
    have := hb j _ (List.getElem?_eq_getElem (by omega)) hj
    simpa using this
  unfold spotR
  rw [this]
theorem spot_none {L : List Rp} {id : Int} (hb : ∀ (j : Nat) (p : Rp), L[j]? = some p → p.id ≠ id) : spotR L id = -1 := by
  have : L.findIdx? (fun p => p.id == id) = none := by
    rw [List.findIdx?_eq_none_iff]
    intro p hp
    obtain ⟨j, hj⟩ := List.getElem?_of_mem hp
    simpa using hb j p hj
  unfold spotR
  rw [this]
theorem spotC (B rb : Nat) (L : List Rp) (id : Int) (w : World) (h : IsRf w B rb L) (hl : L.length ≤ 64) :
    Calls Try.prog 56 #[.pointer (some ⟨rb, 0, none⟩), .int .i64 id] w fun e w' => e = .returned (.int .i64 (spotR L id)) ∧ w' = w := by
  obtain ⟨A, c, c0, _, _, hrow⟩ := h.look
  have HR := Lib.hid hrow
  clear hrow
  go_enter Try.func56, Try.ntmps56
  go_wp2
  go_loopw [5] (fun i wr => ∃ k : Nat, i = .int .i64 k ∧ k ≤ L.length ∧ wr = w ∧ Hid (∀ (j : Nat) (p : Rp), L[j]? = some p → j < k → p.id ≠ id)) (fun i _ => L.length - (intOf i).toNat)
  case atStart => exact ⟨0, rfl, by omega, rfl, fun j p _ hk => by omega⟩
  case round =>
    obtain ⟨k, rfl, hk, rfl, HK⟩ := hrel
    by_cases hlt : k < L.length
    · obtain ⟨q, hq⟩ : ∃ q, L[k]? = some q := ⟨_, List.getElem?_eq_getElem hlt⟩
      obtain ⟨g, rfl, hb, hg, hne, hc, hf⟩ := HR.out k q hq
      have x0 : wr.cell? ⟨g, k * 5, none⟩ = some (.int .i64 q.id) := hc 0 (by omega)
      have k1 : (k : Int) < L.length := by omega
      have k0 : (0 : Int) ≤ k := by omega
      have HQ := Lib.hid hq
      clear hc hf hq
      by_cases he : q.id = id
      · have hd : decide (q.id = id) = true := by simp [he]
        have HE := Lib.hid (spot_hit HQ.out he HK.out)
        go_wp2
        go_ret
        exact ⟨by rw [HE.out]; rfl, rfl⟩
      · go_wp2
        go_roundw
        case rel => exact ⟨k + 1, by go_num, by omega, by simp, fun j p hp hj => by
          by_cases h : j = k
          · subst h
            have := HQ.out
            rw [hp] at this
            injection this with this
            subst this
            exact he
          · exact HK.out j p hp (by omega)⟩
        case measure => simp [intOf]; omega
    · have HE := Lib.hid (spot_none (L := L) (id := id) (fun j p hp => HK.out j p hp (by have := (List.getElem?_eq_some_iff.1 hp).1; omega)))
      go_wp2
      go_ret
      exact ⟨by rw [HE.out]; rfl, rfl⟩

def clashR (a port : Int) (p : Rp) : Bool := p.port == port && (p.a == a || p.a == 0 || a == 0)
def takenR (L : List Rp) (a port : Int) : Bool := L.any (clashR a port)
theorem taken_hit {L : List Rp} {a port : Int} {k : Nat} {q : Rp} (hq : L[k]? = some q) (h : clashR a port q = true) : takenR L a port = true := List.any_eq_true.2 ⟨q, List.mem_of_getElem? hq, h⟩
theorem taken_none {L : List Rp} {a port : Int} (hb : ∀ (j : Nat) (p : Rp), L[j]? = some p → clashR a port p = false) : takenR L a port = false := by
  unfold takenR
  rw [List.any_eq_false]
  intro p hp
  obtain ⟨j, hj⟩ := List.getElem?_of_mem hp
  rw [hb j p hj]; simp
theorem rows_step {L : List Rp} {k : Nat} {q : Rp} {R : Rp → Prop} (hq : L[k]? = some q) (hk : ∀ (j : Nat) (p : Rp), L[j]? = some p → j < k → R p) (h : R q) : ∀ (j : Nat) (p : Rp), L[j]? = some p → j < k + 1 → R p := fun j p hp hj => by
  by_cases e : j = k
  · subst e
    rw [hq] at hp
    injection hp with hp
    subst hp
    exact h
  · exact hk j p hp (by omega)
set_option maxHeartbeats 1600000 in
theorem takenC (B rb : Nat) (L : List Rp) (a port : Int) (w : World) (h : IsRf w B rb L) (hl : L.length ≤ 64) :
    Calls Try.prog 57 #[.pointer (some ⟨rb, 0, none⟩), .int .u32 a, .int .i64 port] w fun e w' => e = .returned (.bool (takenR L a port)) ∧ Below w.heap.size w w' := by
  have HH := Lib.hid h
  obtain ⟨A, c, _, _, _, _⟩ := h.look
  clear h
  go_enter Try.func57, Try.ntmps57
  go_wp2
  go_loopw [7] (fun i wr => ∃ k : Nat, i = .int .i64 k ∧ k ≤ L.length ∧ Hid (Below w.heap.size w wr) ∧ Hid (∀ (j : Nat) (p : Rp), L[j]? = some p → j < k → clashR a port p = false)) (fun i _ => L.length - (intOf i).toNat)
  case atStart => exact ⟨0, rfl, by omega, rf w, fun j p _ hk => by omega⟩
  case round =>
    obtain ⟨k, rfl, hk, HB, HK⟩ := hrel
    obtain ⟨A', c', c0, _, _, hrow⟩ := (HH.out.nx HB.out).look
    by_cases hlt : k < L.length
    · obtain ⟨q, hq⟩ : ∃ q, L[k]? = some q := ⟨_, List.getElem?_eq_getElem hlt⟩
      obtain ⟨g, rfl, hb, hg, hne, hc, hf⟩ := hrow k q hq
      have x0 : wr.cell? ⟨g, k * 5, none⟩ = some (.int .i64 q.id) := hc 0 (by omega)
      have x1 : wr.cell? ⟨g, k * 5 + 1, none⟩ = some (.int .i64 q.port) := hc 1 (by omega)
      have x2 : wr.cell? ⟨g, k * 5 + 2, none⟩ = some (.int .u32 q.a) := hc 2 (by omega)
      have x3 : wr.cell? ⟨g, k * 5 + 3, none⟩ = some (.int .u32 q.peer) := hc 3 (by omega)
      have x4 : wr.cell? ⟨g, k * 5 + 4, none⟩ = some (.int .i64 q.pp) := hc 4 (by omega)
      have k1 : (k : Int) < L.length := by omega
      have k0 : (0 : Int) ≤ k := by omega
      have HQ := Lib.hid hq
      have HB1 : Hid (Below w.heap.size w (wr.alloc (.cells #[.int .i64 q.id, .int .i64 q.port, .int .u32 q.a, .int .u32 q.peer, .int .i64 q.pp] 97))) := HB.out.alloc HB.out.size _
      have HT : Hid (clashR a port q = false → ∀ (j : Nat) (p : Rp), L[j]? = some p → j < k + 1 → clashR a port p = false) := fun hn => rows_step hq HK.out hn
      have HF : Hid (clashR a port q = true → takenR L a port = true) := fun hn => taken_hit hq hn
      clear hc hf hq hrow hne hb hg
      by_cases q1 : q.port = port
      · have r1 : ((q.port : Int) == port) = true := by rw [beq_iff_eq]; exact q1
        by_cases q2 : q.a = a
        · have r2 : ((q.a : Int) == a) = true := by rw [beq_iff_eq]; exact q2
          have hc := Lib.hid (HF.out (by unfold clashR; rw [r1, r2]; rfl))
          clear q1 q2
          go_wp2
          go_ret
          exact ⟨by rw [hc.out]; rfl, HB1.out⟩
        · have r2 : ((q.a : Int) == a) = false := by rw [beq_eq_false_iff_ne]; exact q2
          by_cases q3 : q.a = 0
          · have r3 : ((q.a : Int) == 0) = true := by rw [beq_iff_eq]; exact q3
            have hc := Lib.hid (HF.out (by unfold clashR; rw [r1, r3]; simp))
            clear q1 q2 q3
            go_wp2
            go_ret
            exact ⟨by rw [hc.out]; rfl, HB1.out⟩
          · have r3 : ((q.a : Int) == 0) = false := by rw [beq_eq_false_iff_ne]; exact q3
            by_cases q4 : a = 0
            · have r4 : ((a : Int) == 0) = true := by rw [beq_iff_eq]; exact q4
              have hc := Lib.hid (HF.out (by unfold clashR; rw [r1, r4]; simp))
              clear q1 q2 q3 q4
              go_wp2
              go_ret
              exact ⟨by rw [hc.out]; rfl, HB1.out⟩
            · have r4 : ((a : Int) == 0) = false := by rw [beq_eq_false_iff_ne]; exact q4
              have hc := Lib.hid (HT.out (by unfold clashR; rw [r1, r2, r3, r4]; rfl))
              clear q1 q2 q3 q4
              go_wp2
              go_roundw
              case rel => exact ⟨k + 1, by go_num, by omega, HB1.out, hc.out⟩
              case measure => simp [intOf]; omega
      · have r1 : ((q.port : Int) == port) = false := by rw [beq_eq_false_iff_ne]; exact q1
        have hc := Lib.hid (HT.out (by unfold clashR; rw [r1]; rfl))
        clear q1
        go_wp2
        go_roundw
        case rel => exact ⟨k + 1, by go_num, by omega, HB1.out, hc.out⟩
        case measure => simp [intOf]; omega
    · have HE := Lib.hid (taken_none (L := L) (a := a) (port := port) (fun j p hp => HK.out j p hp (by have := (List.getElem?_eq_some_iff.1 hp).1; omega)))
      go_wp2
      go_ret
      exact ⟨by rw [HE.out]; rfl, HB.out⟩
end Go.Proofs.Ytbhplleaokncpaa
