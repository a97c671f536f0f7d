/-
  Groups: what a Host of one group does at a tick, and as it leaves; what a nil one does.
-/
import Derived.Test.YtjkmkafceeblpaaIg
set_option linter.unusedVariables false
namespace Go.Proofs.Ytjkmkafceeblpaa
open Go.RowKit

set_option maxHeartbeats 800000 in
theorem tick_off (w : World) (h g cap : Nat) (a now : Int) (ours : Bool) (o : One w h g cap a none ours) :
    Calls Try.prog 15 #[.pointer (some ⟨h, 0, none⟩), .int .i64 now] w fun e w' => e = .returned (.slice none 0 0) ∧ Below w.heap.size w w' := by
  have c0 := o.hc
  have HO := Lib.hid o
  clear o
  go_enter Try.func15, Try.ntmps15
  go_wp2
  clear c0
  go_loopw [5, 15] (fun l i wr => ∃ k : Nat, k ≤ 1 ∧ l = .slice none 0 0 ∧ i = .int .i64 k ∧ Below w.heap.size w wr) (fun _ i _ => 1 - (intOf i).toNat)
  case atStart => exact ⟨0, by omega, rfl, rfl, rf w⟩
  case round =>
    obtain ⟨k, hk, rfl, rfl, bel⟩ := hrel
    have c0 := (HO.out.nx bel).hc
    obtain ⟨d0, d1, d2⟩ := (HO.out.nx bel).cells
    unfold tmP at d1
    by_cases h0 : k = 0
    · subst h0
      go_wp2
      go_roundw
      case rel => exact ⟨1, by omega, rfl, rfl, bel⟩
      case measure => simp [intOf]
    · obtain rfl : k = 1 := by omega
      go_wp2
      go_ret
      exact ⟨rfl, bel⟩
set_option maxHeartbeats 800000 in
theorem tick_not (w : World) (h g cap t : Nat) (a now x : Int) (ours : Bool) (o : One w h g cap a (some (t, x)) ours) (hx : now < x) :
    Calls Try.prog 15 #[.pointer (some ⟨h, 0, none⟩), .int .i64 now] w fun e w' => e = .returned (.slice none 0 0) ∧ Below w.heap.size w w' := by
  have c0 := o.hc
  have HO := Lib.hid o
  clear o
  go_enter Try.func15, Try.ntmps15
  go_wp2
  clear c0
  go_loopw [5, 15] (fun l i wr => ∃ k : Nat, k ≤ 1 ∧ l = .slice none 0 0 ∧ i = .int .i64 k ∧ Below w.heap.size w wr) (fun _ i _ => 1 - (intOf i).toNat)
  case atStart => exact ⟨0, by omega, rfl, rfl, rf w⟩
  case round =>
    obtain ⟨k, hk, rfl, rfl, bel⟩ := hrel
    have c0 := (HO.out.nx bel).hc
    obtain ⟨d0, d1, d2⟩ := (HO.out.nx bel).cells
    unfold tmP at d1
    have c1 : _ = some (Value.int .i64 x) := ((HO.out.nx bel).tim t x rfl).cell 0
    have hx' : ¬ x ≤ now := by omega
    by_cases h0 : k = 0
    · subst h0
      go_wp2
      go_roundw
      case rel => exact ⟨1, by omega, rfl, rfl, bel⟩
      case measure => simp [intOf]
    · obtain rfl : k = 1 := by omega
      go_wp2
      go_ret
      exact ⟨rfl, bel⟩
theorem stM : SliceTy Try.prog 41 27 3 24 (.agg #[.int .i64 0, .int .i64 0, .int .u32 0]) := ⟨Try.underlying41, by kernel_rfl, rfl, by omega⟩
def TkR (w : World) (h g cap : Nat) (a : Int) (l i : Value) (wr : World) : Prop :=
  (l = .slice none 0 0 ∧ i = .int .i64 0 ∧ wr = w) ∨ (∃ A c, l = .slice A 1 c ∧ i = .int .i64 1 ∧ One wr h g cap a none true ∧ w.grownBy wr (some g))
set_option maxHeartbeats 1600000 in
theorem tick_fire (w : World) (h g cap t : Nat) (a now x : Int) (ours : Bool) (o : One w h g cap a (some (t, x)) ours) (hx : x ≤ now) :
    Calls Try.prog 15 #[.pointer (some ⟨h, 0, none⟩), .int .i64 now] w fun e w' => ∃ A c, e = .returned (.slice A 1 c) ∧ One w' h g cap a none true ∧ w.grownBy w' (some g) := by
  have c0 := o.hc
  have HO := Lib.hid o
  clear o
  go_enter Try.func15, Try.ntmps15
  go_wp2
  clear c0
  go_loopw [5, 15] (fun l i wr => TkR w h g cap a l i wr) (fun _ i _ => 1 - (intOf i).toNat)
  case atStart => exact .inl ⟨rfl, rfl, rfl⟩
  case round =>
    rcases hrel with ⟨rfl, rfl, rfl⟩ | ⟨A, c, rfl, rfl, H2, gr⟩
    · have c0 := HO.out.hc
      obtain ⟨d0, d1, d2⟩ := HO.out.cells
      unfold tmP at d1
      have f1 := HO.out.fro 1
      have f2 := HO.out.fro 2
      have c1 := (HO.out.tim t x rfl).cell 0
      have SE := HO.out.set (o2 := true)
      obtain ⟨s0, s1, s2⟩ := SE.cells
      have HSE := Lib.hid SE
      clear SE s1 s2
      go_wp2_with fail
      refine (reportC a _).mono ?_
      rintro e w2 ⟨rfl, b2⟩
      clear s0 c0 d0 d1 d2 c1 f1 f2
      go_wp2_with (at_builtin
                   refine app_any stM rfl (.tmp 45) (.tmp 51) rfl w2.heap.size _ 0 [] rfl (World.ownsRow_nil _ _ _ _) (some ⟨w2.heap.size, 0, none⟩) 1 1 [.int .i64 22, .int .i64 0, .int .u32 a] rfl ⟨rfl, fun _ => ⟨_, rfl, by simp, fun j u hj => ?cs⟩⟩ (by intro u hu; simp at hu; rcases hu with rfl | rfl | rfl <;> rfl) (by omega) (by omega) (by simp) ?_
                   case cs => (match j, hj with | 0, hj => (cases hj; exact (Blk.new w2 _ _).cell 0) | 1, hj => (cases hj; exact (Blk.new w2 _ _).cell 1) | 2, hj => (cases hj; exact (Blk.new w2 _ _).cell 2))
                   intro v3 w3 own3 gr3 at3 bel3
                   obtain ⟨A3, c3, rfl⟩ := own_slice own3)
      have B23 : Below w2.heap.size w2 w3 := (al (rf w2) _).trans bel3
      exact ⟨.inr ⟨_, _, rfl, rfl, HSE.out.nx (nx b2 B23), only_nx (only_setCell (p := ⟨g, 2, none⟩) (only_setCell (p := ⟨g, 1, none⟩) (World.grownBy.refl wr _) (.inl rfl) _) (.inl rfl) _) (nx b2 B23)⟩, by simp [intOf]⟩
    · have c0 := H2.hc
      go_wp2
      go_ret
      exact ⟨A, c, rfl, H2, gr⟩
theorem wpList_clear1 {P : Program} {ops : Array Oper} {rest : List Oper} {o : Oper} {a : Act} {w : World} {Q : Exit → Act → World → Prop} (hgd : o.guard = none) (x : Operand) (T : TypeId) (ho : o.op = .call { callee := .builtin .clear, args := #[x], argTypes := #[T] })
    (e : TypeId) (z : Value) (zs : List Value) (ht : P.underlying T = some (.slice e)) (hv : ∀ w, (zeroValue e).run P w = .ok z w) (hz : (Builtin.zeroCells z.cells 1).toList = zs) (g c : Nat) (hx : a.eval x = .slice (some ⟨g, 0, none⟩) 1 c)
    (t : TypeId) (cur : List Value) (hB : Blk w g t cur.toArray) (hl : zs.length ≤ cur.length) (h1 : ∀ v ∈ zs, v.oneCell' = true)
    (h : ∀ w', w.grownBy w' (some g) → wpList P ops Q rest (a.put o.dst (.tuple #[])) w') : wpList P ops Q (o :: rest) a w :=
  wpList_plain hgd fun _ hK => by
    have hst := run_storeCells_cells (P := P) g 0 zs 0 w (fun j hj => by have e := hB.cell j; simp only [Nat.zero_add]; rw [e]; simp; omega) (fun j hj => hB.frozen _) h1
    have hrun : (Builtin.clear_ #[T] o.type #[.slice (some ⟨g, 0, none⟩) 1 c]).run P w = .ok (.tuple #[]) (w.setCells g (0 + 0) zs) := by
      simp [Builtin.clear_, run_underlying ht, hv, hz, hst]
    unfold Oper.wp execOp
    simp only [ho, resolve, invoke, builtin, Sem.run_bind, Sem.run_pure, Result.andThen_ok, List.map_toArray, List.map_cons, List.map_nil, hx, hrun]
    exact hK _ _ (h _ (Blk.setCells zs (0 + 0) w w cur hB (by omega) (World.grownBy.refl w _)).2)
set_option maxHeartbeats 1600000 in
theorem del1 (w : World) (g cap : Nat) (a : Int) (p : Option Addr) (b : Bool) (l : List Value) (hg : Blk w g 77 ([Value.int .u32 a, .pointer p, .bool b] ++ l).toArray) (hcap : 1 ≤ cap) :
    Calls Try.prog 44 #[.slice (some ⟨g, 0, none⟩) 1 cap, .int .i64 0, .int .i64 1] w fun e w' => e = .returned (.slice (some ⟨g, 0, none⟩) 0 cap) ∧ w.grownBy w' (some g) := by
  have c0 : w.cell? ⟨g, 0, none⟩ = some (.int .u32 a) := hg.cell 0
  have c1 : w.cell? ⟨g, 1, none⟩ = some (.pointer p) := hg.cell 1
  have c2 : w.cell? ⟨g, 2, none⟩ = some (.bool b) := hg.cell 2
  have f0 := hg.frozen 0
  have f1 := hg.frozen 1
  have f2 := hg.frozen 2
  have i1 : (1 : Int) ≤ cap := by omega
  have HG : Hid (Blk w.drew g 77 ([Value.int .u32 a, .pointer p, .bool b] ++ l).toArray) := hg
  clear hg
  by_cases hc1 : cap = 1
  · subst hc1
    go_enter Try.func44, Try.ntmps44
    go_wp2
    go_region
    go_wp2_with ((show wpList _ _ _ ({ dst := none, op := .call { callee := .builtin .clear, args := #[.tmp 31], argTypes := #[38] }, .. } :: _) _ _); (refine wpList_clear1 rfl (.tmp 31) 38 rfl 77 gz [.int .u32 0, .pointer none, .bool false] Try.underlying38 Try.zeroValue77 (by kernel_rfl) g _ rfl 77 _ HG.out (by simp) (by intro u hu; simp at hu; rcases hu with rfl | rfl | rfl <;> rfl) ?_); intro w2 gr2)
    go_ret
    exact ⟨rfl, only_trans (only_drew (World.grownBy.refl w _)) gr2⟩
  · go_enter Try.func44, Try.ntmps44
    go_wp2
    go_region
    go_wp2_with ((show wpList _ _ _ ({ dst := none, op := .call { callee := .builtin .clear, args := #[.tmp 31], argTypes := #[38] }, .. } :: _) _ _); (refine wpList_clear1 rfl (.tmp 31) 38 rfl 77 gz [.int .u32 0, .pointer none, .bool false] Try.underlying38 Try.zeroValue77 (by kernel_rfl) g _ rfl 77 _ HG.out (by simp) (by intro u hu; simp at hu; rcases hu with rfl | rfl | rfl <;> rfl) ?_); intro w2 gr2)
    go_ret
    exact ⟨rfl, only_trans (only_drew (World.grownBy.refl w _)) gr2⟩
-- a Host whose only group is gone
def Gone (w : World) (h : Nat) : Prop := ∃ A c, Blk w h 40 #[.slice A 0 c]
def LeftP (w : World) (h : Nat) (a : Int) (ours : Bool) (e : Ending) (w' : World) : Prop :=
  (∃ A c, e = .returned (.tuple #[.slice A (if ours then 1 else 0) c, .int .i64 0]) ∧ (ours = true → ∃ s, A = some ⟨s, 0, none⟩ ∧ Blk w' s 27 #[.int .i64 23, .int .i64 0, .int .u32 a])) ∧ Gone w' h ∧ Below h w w'
set_option maxHeartbeats 1600000 in
theorem leave1 (w : World) (h g cap : Nat) (a : Int) (tm : Option (Nat × Int)) (ours : Bool) (o : One w h g cap a tm ours) (hlo : h < g) :
    Calls Try.prog 21 #[.pointer (some ⟨h, 0, none⟩), .int .u32 a] w (LeftP w h a ours) := by
  have c0 := o.hc
  obtain ⟨p, hp⟩ : ∃ p, tmP tm = .pointer p := by cases tm with | none => exact ⟨_, rfl⟩ | some x => exact ⟨_, rfl⟩
  have HO := Lib.hid o
  have HP := Lib.hid hp
  clear o hp
  go_enter Try.func21, Try.ntmps21
  go_wp2_with fail
  refine (find1 w h g cap a tm ours HO.out).mono ?_
  rintro e w1 ⟨rfl, b1⟩
  have O1 := Lib.hid (HO.out.nx b1)
  have c1 := O1.out.hc
  obtain ⟨d0, d1, d2⟩ := O1.out.cells
  rw [HP.out] at d1
  have hcap := HO.out.cap1
  obtain ⟨l, hb⟩ := O1.out.row
  rw [HP.out] at hb
  have HB := Lib.hid hb; clear hb
  go_wp2_with fail
  refine (del1 w1 g cap a p ours l HB.out hcap).mono ?_
  rintro e w2 ⟨rfl, gr⟩
  have H2 := Lib.hid (O1.out.host.only gr (Nat.ne_of_lt hlo))
  have c2 : w2.cell? ⟨h, 0, none⟩ = some (.slice (some ⟨g, 0, none⟩) 1 cap) := H2.out.cell 0
  have f2 := H2.out.frozen 0
  have hw1 : h < w1.heap.size := O1.out.host.lt
  have hw0 : h < w.heap.size := HO.out.host.lt
  have B2 : Hid (Below h w (w2.setCell ⟨h, 0, none⟩ (.slice (some ⟨g, 0, none⟩) 0 cap))) := ((b1.mono (Nat.le_of_lt hw0)).trans (below_only gr (Nat.le_of_lt hlo) (Nat.le_of_lt hw1))).setCell (p := ⟨h, 0, none⟩) (Nat.le_refl _) _
  have G2 : Hid (Gone (w2.setCell ⟨h, 0, none⟩ (.slice (some ⟨g, 0, none⟩) 0 cap)) h) := ⟨_, _, H2.out.set_ 0 _⟩
  have Z2 : Hid (h < (w2.setCell ⟨h, 0, none⟩ (.slice (some ⟨g, 0, none⟩) 0 cap)).heap.size) := (H2.out.set_ 0 (.slice (some ⟨g, 0, none⟩) 0 cap)).lt
  clear c0 c1 d0 d1 d2
  cases ours with
  | false =>
    go_wp2
    refine bodyPost_ret (results_tmp2 rfl _ _ _) rfl ?_
    exact ⟨⟨none, 0, rfl, fun h => by cases h⟩, G2.out, B2.out⟩
  | true =>
    go_wp2
    refine bodyPost_ret (results_tmp2 rfl _ _ _) rfl ?_
    refine ⟨⟨_, 1, rfl, fun _ => ⟨_, rfl, blk_at _ _ _ (by simp [World.setCell])⟩⟩, ?_, B2.out.alloc (Nat.le_of_lt Z2.out) _⟩
    obtain ⟨A, c, hb⟩ := G2.out
    exact ⟨A, c, hb.alloc _⟩
set_option maxHeartbeats 400000 in
theorem leave0 (w : World) (h : Nat) (a : Int) (o : Gone w h) :
    Calls Try.prog 21 #[.pointer (some ⟨h, 0, none⟩), .int .u32 a] w fun e w' => e = .returned (.tuple #[.slice none 0 0, .int .i64 7]) ∧ Below w.heap.size w w' := by
  obtain ⟨A, c, hb⟩ := o
  have HB := Lib.hid hb; clear hb
  go_enter Try.func21, Try.ntmps21
  go_wp2_with fail
  refine (find0 w h A c a HB.out).mono ?_
  rintro e w1 ⟨rfl, b1⟩
  go_wp2
  refine bodyPost_ret (results_tmp2 rfl _ _ _) rfl ?_
  exact ⟨rfl, b1⟩
set_option maxHeartbeats 800000 in
theorem known (w : World) : Calls Try.prog 13 #[] w fun e w' => e = .returned (.bool true) ∧ Below w.heap.size w w' := by
  go_enter Try.func13, Try.ntmps13
  go_wp2_with fail
  refine (join0 _ w.heap.size 3758162177 5 3 (Blk.new w _ _) (by omega) (by omega) (by omega) (by omega) (by omega) (by omega)).mono ?_
  rintro e w1 ⟨g, cap, t, s, rfl, hs, o, lg, gr⟩
  have e9 : (5 : Int) + (1 + max 0 3 % 10) = 9 := by decide
  rw [e9] at o
  clear e9
  have O1 := Lib.hid o; clear o
  have LG : Hid (w.heap.size ≤ g) := Nat.le_trans (by simp) lg
  clear lg
  have B1 : Hid (Below w.heap.size w w1) := (al (rf w) _).trans (below_only gr (Nat.le_refl _) (by simp))
  have d0 : w1.cell? ⟨s, 0, none⟩ = some (.int .i64 22) := hs.cell 0
  go_wp2_with fail
  refine (tick_not w1 w.heap.size g cap t _ 8 9 true O1.out (by omega)).mono ?_
  rintro e w2 ⟨rfl, b2⟩
  clear d0
  go_wp2_with fail
  refine (tick_fire w2 w.heap.size g cap t _ 9 9 true (O1.out.nx b2) (by omega)).mono ?_
  rintro e w3 ⟨A, c, rfl, o3, gr3⟩
  go_wp2
  go_ret
  refine ⟨rfl, (nx B1.out b2).trans (below_only gr3 LG.out (Nat.le_trans B1.out.size b2.size))⟩
end Go.Proofs.Ytjkmkafceeblpaa
