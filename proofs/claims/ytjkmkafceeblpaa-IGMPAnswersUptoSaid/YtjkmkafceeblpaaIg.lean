/-
  Groups: where a group stands among none or one; its timer; the first one is laid.
-/
import Derived.Test.YtjkmkafceeblpaaOctW
import Derived.Test.YtjkmkafceeblpaaMem
set_option linter.unusedVariables false
namespace Go.Proofs.Ytjkmkafceeblpaa
open Go.RowKit

def gz : Value := .agg #[.int .u32 0, .pointer none, .bool false]
theorem stG : SliceTy Try.prog 38 77 3 24 gz := ⟨Try.underlying38, by kernel_rfl, rfl, by omega⟩
theorem nanC (a : Int) (w : World) : Calls Try.prog 66 #[.int .u32 a] w fun e w' => e = .returned (.bool false) ∧ w' = w := by
  have h : ((a : Int) != a) = false := by simp
  go_enter Try.func66, Try.ntmps66
  go_wp2
  go_ret
  exact ⟨rfl, rfl⟩
theorem cmpEq (a : Int) (w : World) : Calls Try.prog 55 #[.int .u32 a, .int .u32 a] w fun e w' => e = .returned (.int .i64 0) ∧ w' = w := by
  have h : ¬ (a : Int) < a := by omega
  go_enter Try.func55, Try.ntmps55
  go_wp2_with fail
  refine (nanC a _).mono ?_
  rintro e w' ⟨rfl, rfl⟩
  go_wp2_with fail
  refine (nanC a _).mono ?_
  rintro e w' ⟨rfl, rfl⟩
  go_wp2
  go_ret
  exact ⟨rfl, rfl⟩
theorem fnEq (a : Int) (p : Option Addr) (b : Bool) (w : World) : Calls Try.prog 54 #[.agg #[.int .u32 a, .pointer p, .bool b], .int .u32 a] w fun e w' => e = .returned (.int .i64 0) ∧ Below w.heap.size w w' := by
  go_enter Try.func54, Try.ntmps54
  go_wp2_with fail
  refine (cmpEq a _).mono ?_
  rintro e w' ⟨rfl, rfl⟩
  go_wp2
  go_ret
  exact ⟨rfl, al (rf w) _⟩
def fnV : Value := .func (Fn.func 54) #[] #[]
theorem bsf0 (A : Option Addr) (c : Nat) (a : Int) (w : World) :
    Calls Try.prog 53 #[.slice A 0 c, .int .u32 a, fnV] w fun e w' => e = .returned (.tuple #[.int .i64 0, .bool false]) ∧ ∃ n, w' = w.drewN n := by
  unfold fnV
  go_enter Try.func53, Try.ntmps53
  go_wp2
  go_loopw [9, 10] (fun i j wr => i = .int .i64 0 ∧ j = .int .i64 0 ∧ wr = w) (fun _ _ _ => 0)
  case atStart => exact ⟨rfl, rfl, rfl⟩
  case round =>
    obtain ⟨rfl, rfl, rfl⟩ := hrel
    go_wp2
    refine bodyPost_ret (results_tmp2 rfl _ _ _) rfl ?_
    exact ⟨rfl, 0, rfl⟩
-- a Host of one group: its block, its row's, and its timer's
def tmP : Option (Nat × Int) → Value
  | none => .pointer none
  | some (t, _) => .pointer (some ⟨t, 0, none⟩)
structure One (w : World) (h g cap : Nat) (a : Int) (tm : Option (Nat × Int)) (ours : Bool) : Prop where
  host : Blk w h 40 #[.slice (some ⟨g, 0, none⟩) 1 cap]
  row : ∃ l : List Value, Blk w g 77 ([.int .u32 a, tmP tm, .bool ours] ++ l).toArray
  cap1 : 1 ≤ cap
  tim : ∀ t x, tm = some (t, x) → Blk w t 3 #[.int .i64 x]
theorem One.nx {w w' : World} {h g cap : Nat} {a : Int} {tm : Option (Nat × Int)} {ours : Bool} (o : One w h g cap a tm ours) (k : Below w.heap.size w w') : One w' h g cap a tm ours :=
  ⟨o.host.nx k, o.row.imp fun _ hb => hb.nx k, o.cap1, fun t x e => (o.tim t x e).nx k⟩
theorem One.cells {w : World} {h g cap : Nat} {a : Int} {tm : Option (Nat × Int)} {ours : Bool} (o : One w h g cap a tm ours) :
    w.cell? ⟨g, 0, none⟩ = some (.int .u32 a) ∧ w.cell? ⟨g, 1, none⟩ = some (tmP tm) ∧ w.cell? ⟨g, 2, none⟩ = some (.bool ours) := by
  obtain ⟨l, hb⟩ := o.row
  exact ⟨hb.cell 0, hb.cell 1, hb.cell 2⟩
theorem One.fro {w : World} {h g cap : Nat} {a : Int} {tm : Option (Nat × Int)} {ours : Bool} (o : One w h g cap a tm ours) (i : Nat) : w.frozen? ⟨g, i, none⟩ = false := by
  obtain ⟨l, hb⟩ := o.row
  exact hb.frozen i
theorem One.hc {w : World} {h g cap : Nat} {a : Int} {tm : Option (Nat × Int)} {ours : Bool} (o : One w h g cap a tm ours) : w.cell? ⟨h, 0, none⟩ = some (.slice (some ⟨g, 0, none⟩) 1 cap) := o.host.cell 0
theorem One.set {w : World} {h g cap : Nat} {a : Int} {tm : Option (Nat × Int)} {ours o2 : Bool} (o : One w h g cap a tm ours) : One ((w.setCell ⟨g, 1, none⟩ (.pointer none)).setCell ⟨g, 2, none⟩ (.bool o2)) h g cap a none o2 := by
  obtain ⟨l, hb⟩ := o.row
  have hne : h ≠ g := o.host.ne_ hb (by decide)
  refine ⟨(o.host.far (p := ⟨g, 1, none⟩) hne _).far (p := ⟨g, 2, none⟩) hne _, ⟨l, ?_⟩, o.cap1, fun t x e => by cases e⟩
  have := (hb.set_ 1 (.pointer none)).set_ 2 (.bool o2)
  have e : (([Value.int .u32 a, tmP tm, .bool ours] ++ l).toArray.setIfInBounds 1 (.pointer none)).setIfInBounds 2 (.bool o2) = ([Value.int .u32 a, tmP none, .bool o2] ++ l).toArray := by
    apply Array.ext'
    simp [tmP]
  rwa [e] at this
set_option maxHeartbeats 400000 in
theorem bsf1 (w : World) (h g cap : Nat) (a : Int) (tm : Option (Nat × Int)) (ours : Bool) (o : One w h g cap a tm ours) :
    Calls Try.prog 53 #[.slice (some ⟨g, 0, none⟩) 1 cap, .int .u32 a, fnV] w fun e w' => e = .returned (.tuple #[.int .i64 0, .bool true]) ∧ Below w.heap.size w w' := by
  unfold fnV
  obtain ⟨p, hp⟩ : ∃ p, tmP tm = .pointer p := by cases tm with | none => exact ⟨_, rfl⟩ | some x => exact ⟨_, rfl⟩
  go_enter Try.func53, Try.ntmps53
  go_wp2
  go_loopw [9, 10] (fun i j wr => ∃ k : Nat, k ≤ 1 ∧ i = .int .i64 0 ∧ j = .int .i64 k ∧ Below w.heap.size w wr) (fun _ j _ => (intOf j).toNat)
  case atStart => exact ⟨1, by omega, rfl, rfl, rf w⟩
  case round =>
    obtain ⟨k, hk, rfl, rfl, bel⟩ := hrel
    obtain ⟨c0, c1, c2⟩ := (o.nx bel).cells
    rw [hp] at c1
    by_cases h0 : k = 0
    · subst h0
      go_wp2_with fail
      refine (fnEq a p ours _).mono ?_
      rintro e w' ⟨rfl, b1⟩
      go_wp2
      refine bodyPost_ret (results_tmp2 rfl _ _ _) rfl ?_
      exact ⟨rfl, nx bel b1⟩
    · obtain rfl : k = 1 := by omega
      go_wp2_with fail
      refine (fnEq a p ours _).mono ?_
      rintro e w' ⟨rfl, b1⟩
      go_wp2
      go_roundw
      case rel => exact ⟨0, by omega, rfl, rfl, nx bel b1⟩
      case measure => simp [intOf]
set_option maxHeartbeats 400000 in
theorem find0 (w : World) (h : Nat) (A : Option Addr) (c : Nat) (a : Int) (hh : Blk w h 40 #[.slice A 0 c]) :
    Calls Try.prog 32 #[.pointer (some ⟨h, 0, none⟩), .int .u32 a] w fun e w' => e = .returned (.tuple #[.int .i64 0, .bool false]) ∧ Below w.heap.size w w' := by
  have c0 : w.cell? ⟨h, 0, none⟩ = some (.slice A 0 c) := hh.cell 0
  go_enter Try.func32, Try.ntmps32
  go_wp2_with fail
  refine (bsf0 A c a _).mono ?_
  rintro e w' ⟨rfl, n, rfl⟩
  go_wp2
  refine bodyPost_ret (results_tmp2 rfl _ _ _) rfl ?_
  exact ⟨rfl, dn (rf w) n⟩
set_option maxHeartbeats 400000 in
theorem find1 (w : World) (h g cap : Nat) (a : Int) (tm : Option (Nat × Int)) (ours : Bool) (o : One w h g cap a tm ours) :
    Calls Try.prog 32 #[.pointer (some ⟨h, 0, none⟩), .int .u32 a] w fun e w' => e = .returned (.tuple #[.int .i64 0, .bool true]) ∧ Below w.heap.size w w' := by
  have c0 := o.hc
  have HO := Lib.hid o
  clear o
  go_enter Try.func32, Try.ntmps32
  go_wp2_with fail
  refine (bsf1 w h g cap a tm ours HO.out).mono ?_
  rintro e w' ⟨rfl, b1⟩
  go_wp2
  refine bodyPost_ret (results_tmp2 rfl _ _ _) rfl ?_
  exact ⟨rfl, b1⟩
theorem plusC (a b : Int) (w : World) (h0 : 0 ≤ a) (h1 : 0 ≤ b) (h : a + b ≤ 9223372036854775807) : Calls Try.prog 58 #[.int .i64 a, .int .i64 b] w fun e w' => e = .returned (.int .i64 (a + b)) ∧ w' = w := by
  have h2 : ¬ 9223372036854775807 - b < a := by omega
  go_enter Try.func58, Try.ntmps58
  go_wp2
  go_ret
  exact ⟨rfl, rfl⟩
set_option maxHeartbeats 400000 in
theorem dueC (now draw : Int) (w : World) (h0 : 0 ≤ now) (h1 : now ≤ 1000000) (d1 : draw ≤ 9223372036854775807) (d0 : -9223372036854775808 ≤ draw) :
    Calls Try.prog 34 #[.int .i64 now, .int .i64 draw, .int .i64 10, .int .i64 0] w fun e w' => ∃ t x, e = .returned (.pointer (some ⟨t, 0, none⟩)) ∧ Blk w' t 3 #[.int .i64 x] ∧ x = now + (1 + (max 0 draw) % 10) ∧ w.heap.size ≤ t ∧ Below w.heap.size w w' := by
  obtain ⟨d, hd⟩ : ∃ d : Int, (if 0 < draw then draw else 0) = d := ⟨_, rfl⟩
  have hmx : max 0 draw = d := by rw [← hd]; split <;> omega
  have hd0 : 0 ≤ d := by omega
  have hd1 : d ≤ 9223372036854775807 := by omega
  have ht : d.tmod 10 = d % 10 := by rw [Int.tmod_eq_emod_of_nonneg hd0]
  obtain ⟨r, hr⟩ : ∃ r : Int, d % 10 = r := ⟨_, rfl⟩
  have hr0 : 0 ≤ r := by omega
  have hr1 : r < 10 := by omega
  have ht2 : (r + 0).tmod 10 = r := by rw [Int.tmod_eq_emod_of_nonneg (by omega)]; omega
  have ht3 : r.tmod 10 = r := by rw [Int.tmod_eq_emod_of_nonneg (by omega)]; omega
  rw [hmx, hr]
  rw [hr] at ht
  have HR := Lib.hid hr; clear hr hmx
  go_enter Try.func34, Try.ntmps34
  go_wp2_with fail
  refine (plusC now (1 + r) _ h0 (by omega) (by omega)).mono ?_
  rintro e w' ⟨rfl, rfl⟩
  go_wp2
  go_ret
  exact ⟨_, _, rfl, Blk.new _ _ _, rfl, Nat.le_refl _, al (rf _) _⟩
theorem reportC (a : Int) (w : World) : Calls Try.prog 35 #[.int .u32 a] w fun e w' => e = .returned (.agg #[.int .i64 22, .int .i64 0, .int .u32 a]) ∧ Below w.heap.size w w' := by
  go_enter Try.func35, Try.ntmps35
  go_wp2
  exact bodyPost_ret (results_cell_row rfl _ _ _ _ _ _ _ rfl (Blk.new w 27 #[.int .i64 22, .int .i64 0, .int .u32 a]) Try.underlying27 rfl (by kernel_rfl)) rfl ⟨rfl, al (rf w) _⟩
set_option maxHeartbeats 400000 in
theorem ins0 (w : World) (s : Nat) (a : Int) (p : Option Addr) (b : Bool) (hs : Blk w s 77 #[.int .u32 a, .pointer p, .bool b]) :
    Calls Try.prog 33 #[.slice none 0 0, .int .i64 0, .slice (some ⟨s, 0, none⟩) 1 1] w fun e w' => ∃ g cap, e = .returned (.slice (some ⟨g, 0, none⟩) 1 cap) ∧ (∃ l : List Value, Blk w' g 77 ([Value.int .u32 a, .pointer p, .bool b] ++ l).toArray) ∧ 1 ≤ cap ∧ w.heap.size ≤ g ∧ Below w.heap.size w w' := by
  have HS := Lib.hid hs
  clear hs
  go_enter Try.func33, Try.ntmps33
  go_wp2_with (at_builtin
               refine app_any stG rfl (.tmp 23) (.tmp 24) rfl w.heap.size _ 0 [] rfl (World.ownsRow_nil _ _ _ _) (some ⟨s, 0, none⟩) 1 1 [.int .u32 a, .pointer p, .bool b] rfl ⟨rfl, fun _ => ⟨_, rfl, HS.out.lt, fun j u hj => ?cs⟩⟩ (by intro u hu; simp at hu; rcases hu with rfl | rfl | rfl <;> rfl) (by omega) (by omega) (Nat.le_refl _) ?_
               case cs => (match j, hj with | 0, hj => (cases hj; exact HS.out.cell 0) | 1, hj => (cases hj; exact HS.out.cell 1) | 2, hj => (cases hj; exact HS.out.cell 2))
               intro v1 w1 own1 gr1 at1 bel1)
  go_ret
  rcases own1.2 with ⟨rfl, h0⟩ | ⟨g, cap, cur, rfl, hg, hh, h1, h2, h3, h4⟩
  · simp at h0
  · refine ⟨g, cap, rfl, ⟨cur.toList.drop 3, ?_⟩, h1, hg, bel1⟩
    have e : cur = ([Value.int .u32 a, .pointer p, .bool b] ++ cur.toList.drop 3).toArray := by
      apply Array.ext'
      have : cur.toList = cur.toList.take 3 ++ cur.toList.drop 3 := (List.take_append_drop 3 _).symm
      rw [List.toList_toArray, ← this.trans (congrArg (· ++ cur.toList.drop 3) ?_)] 
      simpa using h4
    have hh' : Blk w1 g 77 cur := hh
    rw [e] at hh'; exact hh'
theorem one_mk {w1 w3 w5 : World} {h g cap t : Nat} {a x : Int} {v : Value} (H1 : Blk w1 h 40 #[v]) (B5 : Below w1.heap.size w1 w5) (ht : Blk w3 t 3 #[.int .i64 x]) (B35 : Below w3.heap.size w3 w5)
    (hg : ∃ l : List Value, Blk w5 g 77 ([Value.int .u32 a, .pointer (some ⟨t, 0, none⟩), .bool true] ++ l).toArray) (hcap : 1 ≤ cap) :
    One (w5.setCell ⟨h, 0, none⟩ (.slice (some ⟨g, 0, none⟩) 1 cap)) h g cap a (some (t, x)) true := by
  obtain ⟨l, hb⟩ := hg
  have H5 := H1.nx B5
  have T5 := ht.nx B35
  have n1 : g ≠ h := hb.ne_ H5 (by decide)
  have n2 : t ≠ h := T5.ne_ H5 (by decide)
  refine ⟨H5.set_ 0 _, ⟨l, hb.far (p := ⟨h, 0, none⟩) n1 _⟩, hcap, fun t' x' e => ?_⟩
  injection e with e; injection e with e1 e2
  subst e1 e2
  exact T5.far (p := ⟨h, 0, none⟩) n2 _
set_option maxHeartbeats 1600000 in
theorem join0 (w : World) (h : Nat) (a now draw : Int) (hh : Blk w h 40 #[.slice none 0 0]) (a0 : 3758096386 ≤ a) (a1 : a < 4026531840) (h0 : 0 ≤ now) (h1 : now ≤ 1000000) (d1 : draw ≤ 9223372036854775807) (d0 : -9223372036854775808 ≤ draw) :
    Calls Try.prog 14 #[.pointer (some ⟨h, 0, none⟩), .int .u32 a, .int .i64 now, .int .i64 draw] w fun e w' =>
      ∃ g cap t s, e = .returned (.tuple #[.slice (some ⟨s, 0, none⟩) 1 1, .int .i64 0]) ∧ Blk w' s 27 #[.int .i64 22, .int .i64 0, .int .u32 a] ∧ One w' h g cap a (some (t, now + (1 + (max 0 draw) % 10))) true ∧ w.heap.size ≤ g ∧ w.grownBy w' (some h) := by
  have c0 : w.cell? ⟨h, 0, none⟩ = some (.slice none 0 0) := hh.cell 0
  have f0 := hh.frozen 0
  have hlt := hh.lt
  have i0 : ¬ a < 3758096386 := by omega
  have i1 : ¬ 4026531840 ≤ a := by omega
  have HH := Lib.hid hh
  clear hh
  go_enter Try.func14, Try.ntmps14
  go_wp2_with fail
  refine (find0 w h none 0 a HH.out).mono ?_
  rintro e w1 ⟨rfl, b1⟩
  have H1 := Lib.hid (HH.out.nx b1)
  have c1 : w1.cell? ⟨h, 0, none⟩ = some (.slice none 0 0) := H1.out.cell 0
  have z1 := H1.out.lt
  clear c0 f0
  go_wp2
  have tok1 : True := trivial
  have c1d : w1.drew.cell? ⟨h, 0, none⟩ = some (.slice none 0 0) := H1.out.cell 0
  go_region_with (first
      | (go_at_call 34; have _t := tok1; refine (dueC now draw _ h0 h1 d1 d0).mono ?_; rintro e w3 ⟨t, x, rfl, ht, hx, htb, b3⟩; clear tok1 _t
         have B3 : Below w1.heap.size w1 w3 := nx (rf w1).drew b3
         have c3 : w3.cell? ⟨h, 0, none⟩ = some (.slice none 0 0) := (H1.out.nx B3).cell 0
         have c3a : ∀ o, (w3.alloc o).cell? ⟨h, 0, none⟩ = some (.slice none 0 0) := fun o => (H1.out.nx (al B3 o)).cell 0)
      | (go_at_call 33; refine (ins0 _ w3.heap.size a (some ⟨t, 0, none⟩) true (Blk.new w3 _ _)).mono ?_; rintro e w5 ⟨g, cap, rfl, hg, hcap, hgb, b5⟩
         have B5 : Below w1.heap.size w1 w5 := nx (al B3 _) b5
         have c5 : w5.cell? ⟨h, 0, none⟩ = some (.slice none 0 0) := (H1.out.nx B5).cell 0
         have f5 : w5.frozen? ⟨h, 0, none⟩ = false := (H1.out.nx B5).frozen 0)
      | fail)
  all_goals
    have O5 := Lib.hid (one_mk H1.out B5 ht (nx (al (rf w3) _) b5) hg hcap)
    have G5 : Hid (w.grownBy (w5.setCell ⟨h, 0, none⟩ (.slice (some ⟨g, 0, none⟩) 1 cap)) (some h)) := only_setCell (p := ⟨h, 0, none⟩) (only_of (nx b1 B5)) (.inl rfl) _
    have L5 : w.heap.size ≤ g := by have h1 := b1.size; have h2 := B3.size; simp at hgb; omega
    subst hx
    generalize w5.setCell ⟨h, 0, none⟩ (.slice (some ⟨g, 0, none⟩) 1 cap) = w6 at O5 G5 ⊢
    clear hg ht c3 c3a c5 f5 c1 c1d B3 B5
    go_wp2_with fail
    refine (reportC a _).mono ?_
    rintro e w7 ⟨rfl, b7⟩
    go_wp2
    refine bodyPost_ret (results_tmp2 rfl _ _ _) rfl ?_
    exact ⟨g, cap, t, _, rfl, Blk.new _ _ _, O5.out.nx (al b7 _), L5, only_nx G5.out (al b7 _)⟩
end Go.Proofs.Ytjkmkafceeblpaa
