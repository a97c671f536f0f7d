/-
  A lease's client: it is made, and it goes on to a tick.
-/
import Derived.Test.YtgdlghieifadhaaLs3
set_option linter.unusedVariables false
namespace Go.Proofs.Ytgdlghieifadhaa
open Go.RowKit

theorem Blk.eq_ {w : World} {g : Nat} {t : TypeId} {cs cs' : Array Value} (h : Blk w g t cs) (e : cs = cs') : Blk w g t cs' := e ▸ h
def newS : St := ⟨0, 0, 0, 0, zeroL, zeroL, 0⟩
set_option maxRecDepth 100000 in
set_option maxHeartbeats 800000 in
theorem newC (mac : M6) (w : World) :
    Calls Try.prog 10 #[mac.v] w fun e w' => ∃ b, e = .returned (.pointer (some ⟨b, 0, none⟩)) ∧ w.heap.size ≤ b ∧ IsC w' b mac newS ∧ Below w.heap.size w w' := by
  have HB : Hid (Blk ((w.alloc (.cells #[.int .u8 mac.a, .int .u8 mac.b, .int .u8 mac.c, .int .u8 mac.d, .int .u8 mac.e, .int .u8 mac.f] 25)).alloc (.cells #[.int .u8 mac.a, .int .u8 mac.b, .int .u8 mac.c, .int .u8 mac.d, .int .u8 mac.e, .int .u8 mac.f, .int .i64 0, .int .u32 0, .int .i64 0, .int .i64 0, .int .i64 0, .int .u32 0, .int .u32 0, .int .u8 0, .int .u8 0, .int .u8 0, .int .u8 0, .int .u8 0, .int .u8 0, .int .i64 0, .int .u32 0, .int .u32 0, .int .i64 0, .int .u32 0, .int .u32 0, .int .u32 0, .int .i64 0, .int .u32 0, .int .u32 0, .int .u8 0, .int .u8 0, .int .u8 0, .int .u8 0, .int .u8 0, .int .u8 0, .int .i64 0, .int .u32 0, .int .u32 0, .int .i64 0, .int .u32 0, .int .u32 0, .int .u32 0, .int .i64 0, .nilFunc, .nilFunc, .nilFunc, .nilFunc, .nilFunc, .nilFunc] 63)) (w.heap.size + 1) 63 ([.int .u8 mac.a, .int .u8 mac.b, .int .u8 mac.c, .int .u8 mac.d, .int .u8 mac.e, .int .u8 mac.f, .int .i64 0, .int .u32 0, .int .i64 0, .int .i64 0, .int .i64 0, .int .u32 0, .int .u32 0, .int .u8 0, .int .u8 0, .int .u8 0, .int .u8 0, .int .u8 0, .int .u8 0, .int .i64 0, .int .u32 0, .int .u32 0, .int .i64 0, .int .u32 0, .int .u32 0, .int .u32 0, .int .i64 0, .int .u32 0, .int .u32 0, .int .u8 0, .int .u8 0, .int .u8 0, .int .u8 0, .int .u8 0, .int .u8 0, .int .i64 0, .int .u32 0, .int .u32 0, .int .i64 0, .int .u32 0, .int .u32 0, .int .u32 0, .int .i64 0, .nilFunc, .nilFunc, .nilFunc, .nilFunc, .nilFunc, .nilFunc]).toArray) := blk_at _ _ _ (by simp)
  unfold M6.v
  go_enter Try.func10, Try.ntmps10
  go_wp2_with ((with_reducible refine wpList_store_blk rfl 61 22 20 rfl (w.heap.size + 1) 43 [.func (Fn.func 29) #[.pointer (some ⟨w.heap.size + 1, 0, none⟩)] #[], .func (Fn.func 30) #[.pointer (some ⟨w.heap.size + 1, 0, none⟩)] #[], .func (Fn.func 30) #[.pointer (some ⟨w.heap.size + 1, 0, none⟩)] #[], .func (Fn.func 31) #[.pointer (some ⟨w.heap.size + 1, 0, none⟩)] #[], .func (Fn.func 31) #[.pointer (some ⟨w.heap.size + 1, 0, none⟩)] #[], .func (Fn.func 31) #[.pointer (some ⟨w.heap.size + 1, 0, none⟩)] #[]] (by kernel_rfl) (by kernel_rfl) 63 _ HB.out (Nat.le_of_ble_eq_true (by kernel_rfl)) (by kernel_rfl) (by simp [Value.oneCell']) ?_); intro w2 hB2 g2)
  go_ret
  exact ⟨w.heap.size + 1, rfl, by omega, Blk.eq_ hB2 (by kernel_rfl), (al (al (rf w) _) _).trans (below_only g2 (by omega) (by simp; omega))⟩
-- TICK
theorem over_draws {w : World} {n : Nat} {F : World → Prop} (h : ∀ W, W = w.drewN n → F W) : F (w.drewN n) := h _ rfl
theorem eql_fn (w : World) (f : Fn) (a b : Array Value) : (binOp .eql 31 (.func f a b) .nilFunc).run Try.prog w = .ok (.bool false) w := by
  have h : ∀ d : Nat, (Op.equalIn (d + 1) 31 (.func f a b) .nilFunc).run Try.prog w = .ok false w := fun d => by
    simp [Op.equalIn, run_underlying Try.underlying31]
  simp only [binOp]
  simp [Op.equal, Op.maxDepth, h 9999]
theorem hasT (b : Nat) (mac : M6) (s : St) (w : World) (h : IsC w b mac s) (t : Bool) (ht : Hid (decide (3 ≤ s.st) = t)) :
    Calls Try.prog 36 #[.pointer (some ⟨b, 0, none⟩)] w fun e w' => e = .returned (.bool t) ∧ w' = w := by
  have := hasC b mac s w h
  rwa [ht.out] at this
set_option maxHeartbeats 800000 in
theorem tick_early0 (b : Nat) (mac : M6) (s : St) (now draw : Int) (w : World) (h : IsC w b mac s) (hs : s.ok) (hk : s.st = 0) (h0 : 0 ≤ now) (h1 : now ≤ 1152921504606846976) (hn : now < s.next) :
    Calls Try.prog 15 #[.pointer (some ⟨b, 0, none⟩), .int .i64 now, .int .i64 draw] w fun e w' => Does w w' b mac s none e := by
  have hH : Hid (decide (3 ≤ s.st) = false) := by show decide (3 ≤ s.st) = false; rw [hk]; rfl
  have c6 : w.cell? ⟨b, 6, none⟩ = some (.int .i64 0) := by rw [← hk]; exact h.cell 6
  have cf : w.cell? ⟨b, 43, none⟩ = some (.func (Fn.func 29) #[.pointer (some ⟨b, 0, none⟩)] #[]) := h.cell 43
  have c8 : w.cell? ⟨b, 8, none⟩ = some (.int .i64 s.next) := h.cell 8
  have qf := fun w => eql_fn w (Fn.func 29) #[.pointer (some ⟨b, 0, none⟩)] #[]
  have HK := Lib.hid hk; clear hk
  go_enter Try.func15, Try.ntmps15
  go_wp2
  go_quiet (fail)
  go_wp2
  go_quiet ((go_at_call 36; exact quiet_add_same (hasT b mac s _ (by exact h) false hH)))
  go_wp2
  go_ret
  exact ⟨_, rfl, rfl, h, only_drewN (World.grownBy.refl _ _) _⟩
set_option maxHeartbeats 800000 in
theorem tick_early1 (b : Nat) (mac : M6) (s : St) (now draw : Int) (w : World) (h : IsC w b mac s) (hs : s.ok) (hk : s.st = 1) (h0 : 0 ≤ now) (h1 : now ≤ 1152921504606846976) (hn : now < s.next) :
    Calls Try.prog 15 #[.pointer (some ⟨b, 0, none⟩), .int .i64 now, .int .i64 draw] w fun e w' => Does w w' b mac s none e := by
  have hH : Hid (decide (3 ≤ s.st) = false) := by show decide (3 ≤ s.st) = false; rw [hk]; rfl
  have c6 : w.cell? ⟨b, 6, none⟩ = some (.int .i64 1) := by rw [← hk]; exact h.cell 6
  have cf : w.cell? ⟨b, 44, none⟩ = some (.func (Fn.func 30) #[.pointer (some ⟨b, 0, none⟩)] #[]) := h.cell 44
  have c8 : w.cell? ⟨b, 8, none⟩ = some (.int .i64 s.next) := h.cell 8
  have qf := fun w => eql_fn w (Fn.func 30) #[.pointer (some ⟨b, 0, none⟩)] #[]
  have HK := Lib.hid hk; clear hk
  go_enter Try.func15, Try.ntmps15
  go_wp2
  go_quiet (fail)
  go_wp2
  go_quiet ((go_at_call 36; exact quiet_add_same (hasT b mac s _ (by exact h) false hH)))
  go_wp2
  go_ret
  exact ⟨_, rfl, rfl, h, only_drewN (World.grownBy.refl _ _) _⟩
set_option maxHeartbeats 800000 in
theorem tick_early2 (b : Nat) (mac : M6) (s : St) (now draw : Int) (w : World) (h : IsC w b mac s) (hs : s.ok) (hk : s.st = 2) (h0 : 0 ≤ now) (h1 : now ≤ 1152921504606846976) (hn : now < s.next) :
    Calls Try.prog 15 #[.pointer (some ⟨b, 0, none⟩), .int .i64 now, .int .i64 draw] w fun e w' => Does w w' b mac s none e := by
  have hH : Hid (decide (3 ≤ s.st) = false) := by show decide (3 ≤ s.st) = false; rw [hk]; rfl
  have c6 : w.cell? ⟨b, 6, none⟩ = some (.int .i64 2) := by rw [← hk]; exact h.cell 6
  have cf : w.cell? ⟨b, 45, none⟩ = some (.func (Fn.func 30) #[.pointer (some ⟨b, 0, none⟩)] #[]) := h.cell 45
  have c8 : w.cell? ⟨b, 8, none⟩ = some (.int .i64 s.next) := h.cell 8
  have qf := fun w => eql_fn w (Fn.func 30) #[.pointer (some ⟨b, 0, none⟩)] #[]
  have HK := Lib.hid hk; clear hk
  go_enter Try.func15, Try.ntmps15
  go_wp2
  go_quiet (fail)
  go_wp2
  go_quiet ((go_at_call 36; exact quiet_add_same (hasT b mac s _ (by exact h) false hH)))
  go_wp2
  go_ret
  exact ⟨_, rfl, rfl, h, only_drewN (World.grownBy.refl _ _) _⟩
set_option maxHeartbeats 800000 in
theorem tick_act0 (b : Nat) (mac : M6) (s : St) (now draw : Int) (w : World) (h : IsC w b mac s) (hs : s.ok) (hk : s.st = 0) (h0 : 0 ≤ now) (h1 : now ≤ 1152921504606846976) (hn : s.next ≤ now) :
    Calls Try.prog 15 #[.pointer (some ⟨b, 0, none⟩), .int .i64 now, .int .i64 draw] w fun e w' => Does w w' b mac s none e := by
  have hH : Hid (decide (3 ≤ s.st) = false) := by show decide (3 ≤ s.st) = false; rw [hk]; rfl
  have c6 : w.cell? ⟨b, 6, none⟩ = some (.int .i64 0) := by rw [← hk]; exact h.cell 6
  have cf : w.cell? ⟨b, 43, none⟩ = some (.func (Fn.func 29) #[.pointer (some ⟨b, 0, none⟩)] #[]) := h.cell 43
  have c8 : w.cell? ⟨b, 8, none⟩ = some (.int .i64 s.next) := h.cell 8
  have qf := fun w => eql_fn w (Fn.func 29) #[.pointer (some ⟨b, 0, none⟩)] #[]
  have HK := Lib.hid hk; clear hk
  go_enter Try.func15, Try.ntmps15
  go_wp2
  go_quiet (fail)
  go_wp2
  go_quiet ((go_at_call 36; exact quiet_add_same (hasT b mac s _ (by exact h) false hH)))
  go_wp2
  refine over_draws (w := w) (F := fun W => Code.wp _ _ _ _ W) (fun W0 hW0 => ?_)
  have e6 : W0.cell? ⟨b, 6, none⟩ = some (.int .i64 0) := by rw [hW0]; exact c6
  have ef : W0.cell? ⟨b, 43, none⟩ = some (.func (Fn.func 29) #[.pointer (some ⟨b, 0, none⟩)] #[]) := by rw [hW0]; exact cf
  have hI0 : IsC W0 b mac s := by rw [hW0]; exact h
  have hG0 : w.grownBy W0 (some b) := by rw [hW0]; exact only_drewN (World.grownBy.refl _ _) _
  clear hW0 c6 cf c8
  have hx : ∀ (a : Addr) (n : Nat), ({ W0 with drawn := n } : World).cell? a = W0.cell? a := fun _ _ => rfl
  go_still_tail 11, (by kernel_rfl)
  clear hx
  change wpList _ _ _ _ _ (World.drew _)
  generalize hW : World.drew _ = W
  have hI : IsC W b mac s := by rw [← hW]; exact hI0
  have hG : w.grownBy W (some b) := by rw [← hW]; exact only_drew hG0
  clear hW
  go_wp2_with fail
  refine (nothingC b mac s now draw _ hI).mono ?_
  rintro e w1 ⟨v, rfl, ho, hC, hg⟩
  go_wp2
  go_ret
  exact ⟨v, rfl, ho, hC, only_trans hG hg⟩
set_option maxHeartbeats 800000 in
theorem tick_act1 (b : Nat) (mac : M6) (s : St) (now draw : Int) (w : World) (h : IsC w b mac s) (hs : s.ok) (hk : s.st = 1) (h0 : 0 ≤ now) (h1 : now ≤ 1152921504606846976) (hn : s.next ≤ now) :
    Calls Try.prog 15 #[.pointer (some ⟨b, 0, none⟩), .int .i64 now, .int .i64 draw] w fun e w' => Does w w' b mac (trieS s now draw) (some (sameM mac (trieS s now draw))) e := by
  have hH : Hid (decide (3 ≤ s.st) = false) := by show decide (3 ≤ s.st) = false; rw [hk]; rfl
  have c6 : w.cell? ⟨b, 6, none⟩ = some (.int .i64 1) := by rw [← hk]; exact h.cell 6
  have cf : w.cell? ⟨b, 44, none⟩ = some (.func (Fn.func 30) #[.pointer (some ⟨b, 0, none⟩)] #[]) := h.cell 44
  have c8 : w.cell? ⟨b, 8, none⟩ = some (.int .i64 s.next) := h.cell 8
  have qf := fun w => eql_fn w (Fn.func 30) #[.pointer (some ⟨b, 0, none⟩)] #[]
  have HK := Lib.hid hk; clear hk
  go_enter Try.func15, Try.ntmps15
  go_wp2
  go_quiet (fail)
  go_wp2
  go_quiet ((go_at_call 36; exact quiet_add_same (hasT b mac s _ (by exact h) false hH)))
  go_wp2
  refine over_draws (w := w) (F := fun W => Code.wp _ _ _ _ W) (fun W0 hW0 => ?_)
  have e6 : W0.cell? ⟨b, 6, none⟩ = some (.int .i64 1) := by rw [hW0]; exact c6
  have ef : W0.cell? ⟨b, 44, none⟩ = some (.func (Fn.func 30) #[.pointer (some ⟨b, 0, none⟩)] #[]) := by rw [hW0]; exact cf
  have hI0 : IsC W0 b mac s := by rw [hW0]; exact h
  have hG0 : w.grownBy W0 (some b) := by rw [hW0]; exact only_drewN (World.grownBy.refl _ _) _
  clear hW0 c6 cf c8
  have hx : ∀ (a : Addr) (n : Nat), ({ W0 with drawn := n } : World).cell? a = W0.cell? a := fun _ _ => rfl
  go_still_tail 11, (by kernel_rfl)
  clear hx
  change wpList _ _ _ _ _ (World.drew _)
  generalize hW : World.drew _ = W
  have hI : IsC W b mac s := by rw [← hW]; exact hI0
  have hG : w.grownBy W (some b) := by rw [← hW]; exact only_drew hG0
  clear hW
  go_wp2_with fail
  refine (triesC b mac s now draw _ hI hs h0 h1).mono ?_
  rintro e w1 ⟨v, rfl, ho, hC, hg⟩
  go_wp2
  go_ret
  exact ⟨v, rfl, ho.more hG.size, hC, only_trans hG hg⟩
set_option maxHeartbeats 800000 in
theorem tick_act2 (b : Nat) (mac : M6) (s : St) (now draw : Int) (w : World) (h : IsC w b mac s) (hs : s.ok) (hk : s.st = 2) (h0 : 0 ≤ now) (h1 : now ≤ 1152921504606846976) (hn : s.next ≤ now) :
    Calls Try.prog 15 #[.pointer (some ⟨b, 0, none⟩), .int .i64 now, .int .i64 draw] w fun e w' => Does w w' b mac (trieS s now draw) (some (sameM mac (trieS s now draw))) e := by
  have hH : Hid (decide (3 ≤ s.st) = false) := by show decide (3 ≤ s.st) = false; rw [hk]; rfl
  have c6 : w.cell? ⟨b, 6, none⟩ = some (.int .i64 2) := by rw [← hk]; exact h.cell 6
  have cf : w.cell? ⟨b, 45, none⟩ = some (.func (Fn.func 30) #[.pointer (some ⟨b, 0, none⟩)] #[]) := h.cell 45
  have c8 : w.cell? ⟨b, 8, none⟩ = some (.int .i64 s.next) := h.cell 8
  have qf := fun w => eql_fn w (Fn.func 30) #[.pointer (some ⟨b, 0, none⟩)] #[]
  have HK := Lib.hid hk; clear hk
  go_enter Try.func15, Try.ntmps15
  go_wp2
  go_quiet (fail)
  go_wp2
  go_quiet ((go_at_call 36; exact quiet_add_same (hasT b mac s _ (by exact h) false hH)))
  go_wp2
  refine over_draws (w := w) (F := fun W => Code.wp _ _ _ _ W) (fun W0 hW0 => ?_)
  have e6 : W0.cell? ⟨b, 6, none⟩ = some (.int .i64 2) := by rw [hW0]; exact c6
  have ef : W0.cell? ⟨b, 45, none⟩ = some (.func (Fn.func 30) #[.pointer (some ⟨b, 0, none⟩)] #[]) := by rw [hW0]; exact cf
  have hI0 : IsC W0 b mac s := by rw [hW0]; exact h
  have hG0 : w.grownBy W0 (some b) := by rw [hW0]; exact only_drewN (World.grownBy.refl _ _) _
  clear hW0 c6 cf c8
  have hx : ∀ (a : Addr) (n : Nat), ({ W0 with drawn := n } : World).cell? a = W0.cell? a := fun _ _ => rfl
  go_still_tail 11, (by kernel_rfl)
  clear hx
  change wpList _ _ _ _ _ (World.drew _)
  generalize hW : World.drew _ = W
  have hI : IsC W b mac s := by rw [← hW]; exact hI0
  have hG : w.grownBy W (some b) := by rw [← hW]; exact only_drew hG0
  clear hW
  go_wp2_with fail
  refine (triesC b mac s now draw _ hI hs h0 h1).mono ?_
  rintro e w1 ⟨v, rfl, ho, hC, hg⟩
  go_wp2
  go_ret
  exact ⟨v, rfl, ho.more hG.size, hC, only_trans hG hg⟩
set_option maxHeartbeats 800000 in
theorem tick_over3 (b : Nat) (mac : M6) (s : St) (now draw : Int) (w : World) (h : IsC w b mac s) (hs : s.ok) (hk : s.st = 3) (h0 : 0 ≤ now) (h1 : now ≤ 1152921504606846976) (hov : s.fr + 10 * s.lease.time ≤ now) :
    Calls Try.prog 15 #[.pointer (some ⟨b, 0, none⟩), .int .i64 now, .int .i64 draw] w fun e w' => Does w w' b mac (beginS s now draw) (some (sameM mac (beginS s now draw))) e := by
  have hH : Hid (decide (3 ≤ s.st) = true) := by show decide (3 ≤ s.st) = true; rw [hk]; rfl
  have c6 : w.cell? ⟨b, 6, none⟩ = some (.int .i64 3) := by rw [← hk]; exact h.cell 6
  have cf : w.cell? ⟨b, 46, none⟩ = some (.func (Fn.func 31) #[.pointer (some ⟨b, 0, none⟩)] #[]) := h.cell 46
  have c8 : w.cell? ⟨b, 8, none⟩ = some (.int .i64 s.next) := h.cell 8
  have qf := fun w => eql_fn w (Fn.func 31) #[.pointer (some ⟨b, 0, none⟩)] #[]
  have HK := Lib.hid hk; clear hk
  have c42 : w.cell? ⟨b, 42, none⟩ = some (.int .i64 s.fr) := h.cell 42
  have r0 := hs.f0
  have r1 := hs.f1
  obtain ⟨T, hT⟩ : ∃ T, 10 * s.lease.time = T := ⟨_, rfl⟩
  have T0 : 0 ≤ T := by have := hs.t0; omega
  have T1 : T ≤ 21474836470 := by have := hs.t1; omega
  have ho : s.fr + T ≤ now := by have := hov; omega
  clear hov
  have HT := Lib.hid hT; clear hT
  go_enter Try.func15, Try.ntmps15
  go_wp2
  go_quiet (fail)
  go_wp2
  go_quiet ((first
    | (go_at_call 36; exact quiet_add_same (hasT b mac s _ (by exact h) true hH))
    | (go_at_call 37; exact quiet_add_same (timeT b mac s _ T (by exact h) hs HT))
    | (go_at_call 33; exact quiet_add_same (plus s.fr T _ r0 (by omega) T0 (by omega)))))
  go_wp2_with fail
  refine (beginsC b mac s now draw _ (by exact h) h0 h1).mono ?_
  rintro e w1 ⟨v, rfl, ho, hC, hg⟩
  go_wp2
  go_ret
  exact ⟨v, rfl, ho, hC, only_trans (only_drewN (World.grownBy.refl _ _) _) hg⟩
set_option maxHeartbeats 800000 in
theorem tick_early3 (b : Nat) (mac : M6) (s : St) (now draw : Int) (w : World) (h : IsC w b mac s) (hs : s.ok) (hk : s.st = 3) (h0 : 0 ≤ now) (h1 : now ≤ 1152921504606846976) (hov : now < s.fr + 10 * s.lease.time) (hn : now < s.next) :
    Calls Try.prog 15 #[.pointer (some ⟨b, 0, none⟩), .int .i64 now, .int .i64 draw] w fun e w' => Does w w' b mac s none e := by
  have hH : Hid (decide (3 ≤ s.st) = true) := by show decide (3 ≤ s.st) = true; rw [hk]; rfl
  have c6 : w.cell? ⟨b, 6, none⟩ = some (.int .i64 3) := by rw [← hk]; exact h.cell 6
  have cf : w.cell? ⟨b, 46, none⟩ = some (.func (Fn.func 31) #[.pointer (some ⟨b, 0, none⟩)] #[]) := h.cell 46
  have c8 : w.cell? ⟨b, 8, none⟩ = some (.int .i64 s.next) := h.cell 8
  have qf := fun w => eql_fn w (Fn.func 31) #[.pointer (some ⟨b, 0, none⟩)] #[]
  have HK := Lib.hid hk; clear hk
  have c42 : w.cell? ⟨b, 42, none⟩ = some (.int .i64 s.fr) := h.cell 42
  have r0 := hs.f0
  have r1 := hs.f1
  obtain ⟨T, hT⟩ : ∃ T, 10 * s.lease.time = T := ⟨_, rfl⟩
  have T0 : 0 ≤ T := by have := hs.t0; omega
  have T1 : T ≤ 21474836470 := by have := hs.t1; omega
  have ho : now < s.fr + T := by have := hov; omega
  clear hov
  have HT := Lib.hid hT; clear hT
  go_enter Try.func15, Try.ntmps15
  go_wp2
  go_quiet (fail)
  go_wp2
  go_quiet ((first
    | (go_at_call 36; exact quiet_add_same (hasT b mac s _ (by exact h) true hH))
    | (go_at_call 37; exact quiet_add_same (timeT b mac s _ T (by exact h) hs HT))
    | (go_at_call 33; exact quiet_add_same (plus s.fr T _ r0 (by omega) T0 (by omega)))))
  go_wp2
  go_ret
  exact ⟨_, rfl, rfl, h, only_drewN (World.grownBy.refl _ _) _⟩
set_option maxHeartbeats 800000 in
theorem tick_act3 (b : Nat) (mac : M6) (s : St) (now draw : Int) (w : World) (h : IsC w b mac s) (hs : s.ok) (hk : s.st = 3) (h0 : 0 ≤ now) (h1 : now ≤ 1152921504606846976) (hov : now < s.fr + 10 * s.lease.time) (hn : s.next ≤ now) :
    Calls Try.prog 15 #[.pointer (some ⟨b, 0, none⟩), .int .i64 now, .int .i64 draw] w fun e w' => Does w w' b mac (renewS s now) (some (sameM mac (renewS s now))) e := by
  have hH : Hid (decide (3 ≤ s.st) = true) := by show decide (3 ≤ s.st) = true; rw [hk]; rfl
  have c6 : w.cell? ⟨b, 6, none⟩ = some (.int .i64 3) := by rw [← hk]; exact h.cell 6
  have cf : w.cell? ⟨b, 46, none⟩ = some (.func (Fn.func 31) #[.pointer (some ⟨b, 0, none⟩)] #[]) := h.cell 46
  have c8 : w.cell? ⟨b, 8, none⟩ = some (.int .i64 s.next) := h.cell 8
  have qf := fun w => eql_fn w (Fn.func 31) #[.pointer (some ⟨b, 0, none⟩)] #[]
  have HK := Lib.hid hk; clear hk
  have c42 : w.cell? ⟨b, 42, none⟩ = some (.int .i64 s.fr) := h.cell 42
  have r0 := hs.f0
  have r1 := hs.f1
  obtain ⟨T, hT⟩ : ∃ T, 10 * s.lease.time = T := ⟨_, rfl⟩
  have T0 : 0 ≤ T := by have := hs.t0; omega
  have T1 : T ≤ 21474836470 := by have := hs.t1; omega
  have ho : now < s.fr + T := by have := hov; omega
  clear hov
  have HT := Lib.hid hT; clear hT
  go_enter Try.func15, Try.ntmps15
  go_wp2
  go_quiet (fail)
  go_wp2
  go_quiet ((first
    | (go_at_call 36; exact quiet_add_same (hasT b mac s _ (by exact h) true hH))
    | (go_at_call 37; exact quiet_add_same (timeT b mac s _ T (by exact h) hs HT))
    | (go_at_call 33; exact quiet_add_same (plus s.fr T _ r0 (by omega) T0 (by omega)))))
  go_wp2
  refine over_draws (w := w) (F := fun W => Code.wp _ _ _ _ W) (fun W0 hW0 => ?_)
  have e6 : W0.cell? ⟨b, 6, none⟩ = some (.int .i64 3) := by rw [hW0]; exact c6
  have ef : W0.cell? ⟨b, 46, none⟩ = some (.func (Fn.func 31) #[.pointer (some ⟨b, 0, none⟩)] #[]) := by rw [hW0]; exact cf
  have hI0 : IsC W0 b mac s := by rw [hW0]; exact h
  have hG0 : w.grownBy W0 (some b) := by rw [hW0]; exact only_drewN (World.grownBy.refl _ _) _
  clear hW0 c6 cf c8
  have hx : ∀ (a : Addr) (n : Nat), ({ W0 with drawn := n } : World).cell? a = W0.cell? a := fun _ _ => rfl
  go_still_tail 11, (by kernel_rfl)
  clear hx
  change wpList _ _ _ _ _ (World.drew _)
  generalize hW : World.drew _ = W
  have hI : IsC W b mac s := by rw [← hW]; exact hI0
  have hG : w.grownBy W (some b) := by rw [← hW]; exact only_drew hG0
  clear hW
  go_wp2_with fail
  refine (renewsC b mac s now draw _ hI hs (by rw [HK.out]; decide) h0 h1).mono ?_
  rintro e w1 ⟨v, rfl, ho, hC, hg⟩
  go_wp2
  go_ret
  exact ⟨v, rfl, ho.more hG.size, hC, only_trans hG hg⟩
set_option maxHeartbeats 800000 in
theorem tick_over4 (b : Nat) (mac : M6) (s : St) (now draw : Int) (w : World) (h : IsC w b mac s) (hs : s.ok) (hk : s.st = 4) (h0 : 0 ≤ now) (h1 : now ≤ 1152921504606846976) (hov : s.fr + 10 * s.lease.time ≤ now) :
    Calls Try.prog 15 #[.pointer (some ⟨b, 0, none⟩), .int .i64 now, .int .i64 draw] w fun e w' => Does w w' b mac (beginS s now draw) (some (sameM mac (beginS s now draw))) e := by
  have hH : Hid (decide (3 ≤ s.st) = true) := by show decide (3 ≤ s.st) = true; rw [hk]; rfl
  have c6 : w.cell? ⟨b, 6, none⟩ = some (.int .i64 4) := by rw [← hk]; exact h.cell 6
  have cf : w.cell? ⟨b, 47, none⟩ = some (.func (Fn.func 31) #[.pointer (some ⟨b, 0, none⟩)] #[]) := h.cell 47
  have c8 : w.cell? ⟨b, 8, none⟩ = some (.int .i64 s.next) := h.cell 8
  have qf := fun w => eql_fn w (Fn.func 31) #[.pointer (some ⟨b, 0, none⟩)] #[]
  have HK := Lib.hid hk; clear hk
  have c42 : w.cell? ⟨b, 42, none⟩ = some (.int .i64 s.fr) := h.cell 42
  have r0 := hs.f0
  have r1 := hs.f1
  obtain ⟨T, hT⟩ : ∃ T, 10 * s.lease.time = T := ⟨_, rfl⟩
  have T0 : 0 ≤ T := by have := hs.t0; omega
  have T1 : T ≤ 21474836470 := by have := hs.t1; omega
  have ho : s.fr + T ≤ now := by have := hov; omega
  clear hov
  have HT := Lib.hid hT; clear hT
  go_enter Try.func15, Try.ntmps15
  go_wp2
  go_quiet (fail)
  go_wp2
  go_quiet ((first
    | (go_at_call 36; exact quiet_add_same (hasT b mac s _ (by exact h) true hH))
    | (go_at_call 37; exact quiet_add_same (timeT b mac s _ T (by exact h) hs HT))
    | (go_at_call 33; exact quiet_add_same (plus s.fr T _ r0 (by omega) T0 (by omega)))))
  go_wp2_with fail
  refine (beginsC b mac s now draw _ (by exact h) h0 h1).mono ?_
  rintro e w1 ⟨v, rfl, ho, hC, hg⟩
  go_wp2
  go_ret
  exact ⟨v, rfl, ho, hC, only_trans (only_drewN (World.grownBy.refl _ _) _) hg⟩
set_option maxHeartbeats 800000 in
theorem tick_early4 (b : Nat) (mac : M6) (s : St) (now draw : Int) (w : World) (h : IsC w b mac s) (hs : s.ok) (hk : s.st = 4) (h0 : 0 ≤ now) (h1 : now ≤ 1152921504606846976) (hov : now < s.fr + 10 * s.lease.time) (hn : now < s.next) :
    Calls Try.prog 15 #[.pointer (some ⟨b, 0, none⟩), .int .i64 now, .int .i64 draw] w fun e w' => Does w w' b mac s none e := by
  have hH : Hid (decide (3 ≤ s.st) = true) := by show decide (3 ≤ s.st) = true; rw [hk]; rfl
  have c6 : w.cell? ⟨b, 6, none⟩ = some (.int .i64 4) := by rw [← hk]; exact h.cell 6
  have cf : w.cell? ⟨b, 47, none⟩ = some (.func (Fn.func 31) #[.pointer (some ⟨b, 0, none⟩)] #[]) := h.cell 47
  have c8 : w.cell? ⟨b, 8, none⟩ = some (.int .i64 s.next) := h.cell 8
  have qf := fun w => eql_fn w (Fn.func 31) #[.pointer (some ⟨b, 0, none⟩)] #[]
  have HK := Lib.hid hk; clear hk
  have c42 : w.cell? ⟨b, 42, none⟩ = some (.int .i64 s.fr) := h.cell 42
  have r0 := hs.f0
  have r1 := hs.f1
  obtain ⟨T, hT⟩ : ∃ T, 10 * s.lease.time = T := ⟨_, rfl⟩
  have T0 : 0 ≤ T := by have := hs.t0; omega
  have T1 : T ≤ 21474836470 := by have := hs.t1; omega
  have ho : now < s.fr + T := by have := hov; omega
  clear hov
  have HT := Lib.hid hT; clear hT
  go_enter Try.func15, Try.ntmps15
  go_wp2
  go_quiet (fail)
  go_wp2
  go_quiet ((first
    | (go_at_call 36; exact quiet_add_same (hasT b mac s _ (by exact h) true hH))
    | (go_at_call 37; exact quiet_add_same (timeT b mac s _ T (by exact h) hs HT))
    | (go_at_call 33; exact quiet_add_same (plus s.fr T _ r0 (by omega) T0 (by omega)))))
  go_wp2
  go_ret
  exact ⟨_, rfl, rfl, h, only_drewN (World.grownBy.refl _ _) _⟩
set_option maxHeartbeats 800000 in
theorem tick_act4 (b : Nat) (mac : M6) (s : St) (now draw : Int) (w : World) (h : IsC w b mac s) (hs : s.ok) (hk : s.st = 4) (h0 : 0 ≤ now) (h1 : now ≤ 1152921504606846976) (hov : now < s.fr + 10 * s.lease.time) (hn : s.next ≤ now) :
    Calls Try.prog 15 #[.pointer (some ⟨b, 0, none⟩), .int .i64 now, .int .i64 draw] w fun e w' => Does w w' b mac (renewS s now) (some (sameM mac (renewS s now))) e := by
  have hH : Hid (decide (3 ≤ s.st) = true) := by show decide (3 ≤ s.st) = true; rw [hk]; rfl
  have c6 : w.cell? ⟨b, 6, none⟩ = some (.int .i64 4) := by rw [← hk]; exact h.cell 6
  have cf : w.cell? ⟨b, 47, none⟩ = some (.func (Fn.func 31) #[.pointer (some ⟨b, 0, none⟩)] #[]) := h.cell 47
  have c8 : w.cell? ⟨b, 8, none⟩ = some (.int .i64 s.next) := h.cell 8
  have qf := fun w => eql_fn w (Fn.func 31) #[.pointer (some ⟨b, 0, none⟩)] #[]
  have HK := Lib.hid hk; clear hk
  have c42 : w.cell? ⟨b, 42, none⟩ = some (.int .i64 s.fr) := h.cell 42
  have r0 := hs.f0
  have r1 := hs.f1
  obtain ⟨T, hT⟩ : ∃ T, 10 * s.lease.time = T := ⟨_, rfl⟩
  have T0 : 0 ≤ T := by have := hs.t0; omega
  have T1 : T ≤ 21474836470 := by have := hs.t1; omega
  have ho : now < s.fr + T := by have := hov; omega
  clear hov
  have HT := Lib.hid hT; clear hT
  go_enter Try.func15, Try.ntmps15
  go_wp2
  go_quiet (fail)
  go_wp2
  go_quiet ((first
    | (go_at_call 36; exact quiet_add_same (hasT b mac s _ (by exact h) true hH))
    | (go_at_call 37; exact quiet_add_same (timeT b mac s _ T (by exact h) hs HT))
    | (go_at_call 33; exact quiet_add_same (plus s.fr T _ r0 (by omega) T0 (by omega)))))
  go_wp2
  refine over_draws (w := w) (F := fun W => Code.wp _ _ _ _ W) (fun W0 hW0 => ?_)
  have e6 : W0.cell? ⟨b, 6, none⟩ = some (.int .i64 4) := by rw [hW0]; exact c6
  have ef : W0.cell? ⟨b, 47, none⟩ = some (.func (Fn.func 31) #[.pointer (some ⟨b, 0, none⟩)] #[]) := by rw [hW0]; exact cf
  have hI0 : IsC W0 b mac s := by rw [hW0]; exact h
  have hG0 : w.grownBy W0 (some b) := by rw [hW0]; exact only_drewN (World.grownBy.refl _ _) _
  clear hW0 c6 cf c8
  have hx : ∀ (a : Addr) (n : Nat), ({ W0 with drawn := n } : World).cell? a = W0.cell? a := fun _ _ => rfl
  go_still_tail 11, (by kernel_rfl)
  clear hx
  change wpList _ _ _ _ _ (World.drew _)
  generalize hW : World.drew _ = W
  have hI : IsC W b mac s := by rw [← hW]; exact hI0
  have hG : w.grownBy W (some b) := by rw [← hW]; exact only_drew hG0
  clear hW
  go_wp2_with fail
  refine (renewsC b mac s now draw _ hI hs (by rw [HK.out]; decide) h0 h1).mono ?_
  rintro e w1 ⟨v, rfl, ho, hC, hg⟩
  go_wp2
  go_ret
  exact ⟨v, rfl, ho.more hG.size, hC, only_trans hG hg⟩
set_option maxHeartbeats 800000 in
theorem tick_over5 (b : Nat) (mac : M6) (s : St) (now draw : Int) (w : World) (h : IsC w b mac s) (hs : s.ok) (hk : s.st = 5) (h0 : 0 ≤ now) (h1 : now ≤ 1152921504606846976) (hov : s.fr + 10 * s.lease.time ≤ now) :
    Calls Try.prog 15 #[.pointer (some ⟨b, 0, none⟩), .int .i64 now, .int .i64 draw] w fun e w' => Does w w' b mac (beginS s now draw) (some (sameM mac (beginS s now draw))) e := by
  have hH : Hid (decide (3 ≤ s.st) = true) := by show decide (3 ≤ s.st) = true; rw [hk]; rfl
  have c6 : w.cell? ⟨b, 6, none⟩ = some (.int .i64 5) := by rw [← hk]; exact h.cell 6
  have cf : w.cell? ⟨b, 48, none⟩ = some (.func (Fn.func 31) #[.pointer (some ⟨b, 0, none⟩)] #[]) := h.cell 48
  have c8 : w.cell? ⟨b, 8, none⟩ = some (.int .i64 s.next) := h.cell 8
  have qf := fun w => eql_fn w (Fn.func 31) #[.pointer (some ⟨b, 0, none⟩)] #[]
  have HK := Lib.hid hk; clear hk
  have c42 : w.cell? ⟨b, 42, none⟩ = some (.int .i64 s.fr) := h.cell 42
  have r0 := hs.f0
  have r1 := hs.f1
  obtain ⟨T, hT⟩ : ∃ T, 10 * s.lease.time = T := ⟨_, rfl⟩
  have T0 : 0 ≤ T := by have := hs.t0; omega
  have T1 : T ≤ 21474836470 := by have := hs.t1; omega
  have ho : s.fr + T ≤ now := by have := hov; omega
  clear hov
  have HT := Lib.hid hT; clear hT
  go_enter Try.func15, Try.ntmps15
  go_wp2
  go_quiet (fail)
  go_wp2
  go_quiet ((first
    | (go_at_call 36; exact quiet_add_same (hasT b mac s _ (by exact h) true hH))
    | (go_at_call 37; exact quiet_add_same (timeT b mac s _ T (by exact h) hs HT))
    | (go_at_call 33; exact quiet_add_same (plus s.fr T _ r0 (by omega) T0 (by omega)))))
  go_wp2_with fail
  refine (beginsC b mac s now draw _ (by exact h) h0 h1).mono ?_
  rintro e w1 ⟨v, rfl, ho, hC, hg⟩
  go_wp2
  go_ret
  exact ⟨v, rfl, ho, hC, only_trans (only_drewN (World.grownBy.refl _ _) _) hg⟩
set_option maxHeartbeats 800000 in
theorem tick_early5 (b : Nat) (mac : M6) (s : St) (now draw : Int) (w : World) (h : IsC w b mac s) (hs : s.ok) (hk : s.st = 5) (h0 : 0 ≤ now) (h1 : now ≤ 1152921504606846976) (hov : now < s.fr + 10 * s.lease.time) (hn : now < s.next) :
    Calls Try.prog 15 #[.pointer (some ⟨b, 0, none⟩), .int .i64 now, .int .i64 draw] w fun e w' => Does w w' b mac s none e := by
  have hH : Hid (decide (3 ≤ s.st) = true) := by show decide (3 ≤ s.st) = true; rw [hk]; rfl
  have c6 : w.cell? ⟨b, 6, none⟩ = some (.int .i64 5) := by rw [← hk]; exact h.cell 6
  have cf : w.cell? ⟨b, 48, none⟩ = some (.func (Fn.func 31) #[.pointer (some ⟨b, 0, none⟩)] #[]) := h.cell 48
  have c8 : w.cell? ⟨b, 8, none⟩ = some (.int .i64 s.next) := h.cell 8
  have qf := fun w => eql_fn w (Fn.func 31) #[.pointer (some ⟨b, 0, none⟩)] #[]
  have HK := Lib.hid hk; clear hk
  have c42 : w.cell? ⟨b, 42, none⟩ = some (.int .i64 s.fr) := h.cell 42
  have r0 := hs.f0
  have r1 := hs.f1
  obtain ⟨T, hT⟩ : ∃ T, 10 * s.lease.time = T := ⟨_, rfl⟩
  have T0 : 0 ≤ T := by have := hs.t0; omega
  have T1 : T ≤ 21474836470 := by have := hs.t1; omega
  have ho : now < s.fr + T := by have := hov; omega
  clear hov
  have HT := Lib.hid hT; clear hT
  go_enter Try.func15, Try.ntmps15
  go_wp2
  go_quiet (fail)
  go_wp2
  go_quiet ((first
    | (go_at_call 36; exact quiet_add_same (hasT b mac s _ (by exact h) true hH))
    | (go_at_call 37; exact quiet_add_same (timeT b mac s _ T (by exact h) hs HT))
    | (go_at_call 33; exact quiet_add_same (plus s.fr T _ r0 (by omega) T0 (by omega)))))
  go_wp2
  go_ret
  exact ⟨_, rfl, rfl, h, only_drewN (World.grownBy.refl _ _) _⟩
set_option maxHeartbeats 800000 in
theorem tick_act5 (b : Nat) (mac : M6) (s : St) (now draw : Int) (w : World) (h : IsC w b mac s) (hs : s.ok) (hk : s.st = 5) (h0 : 0 ≤ now) (h1 : now ≤ 1152921504606846976) (hov : now < s.fr + 10 * s.lease.time) (hn : s.next ≤ now) :
    Calls Try.prog 15 #[.pointer (some ⟨b, 0, none⟩), .int .i64 now, .int .i64 draw] w fun e w' => Does w w' b mac (renewS s now) (some (sameM mac (renewS s now))) e := by
  have hH : Hid (decide (3 ≤ s.st) = true) := by show decide (3 ≤ s.st) = true; rw [hk]; rfl
  have c6 : w.cell? ⟨b, 6, none⟩ = some (.int .i64 5) := by rw [← hk]; exact h.cell 6
  have cf : w.cell? ⟨b, 48, none⟩ = some (.func (Fn.func 31) #[.pointer (some ⟨b, 0, none⟩)] #[]) := h.cell 48
  have c8 : w.cell? ⟨b, 8, none⟩ = some (.int .i64 s.next) := h.cell 8
  have qf := fun w => eql_fn w (Fn.func 31) #[.pointer (some ⟨b, 0, none⟩)] #[]
  have HK := Lib.hid hk; clear hk
  have c42 : w.cell? ⟨b, 42, none⟩ = some (.int .i64 s.fr) := h.cell 42
  have r0 := hs.f0
  have r1 := hs.f1
  obtain ⟨T, hT⟩ : ∃ T, 10 * s.lease.time = T := ⟨_, rfl⟩
  have T0 : 0 ≤ T := by have := hs.t0; omega
  have T1 : T ≤ 21474836470 := by have := hs.t1; omega
  have ho : now < s.fr + T := by have := hov; omega
  clear hov
  have HT := Lib.hid hT; clear hT
  go_enter Try.func15, Try.ntmps15
  go_wp2
  go_quiet (fail)
  go_wp2
  go_quiet ((first
    | (go_at_call 36; exact quiet_add_same (hasT b mac s _ (by exact h) true hH))
    | (go_at_call 37; exact quiet_add_same (timeT b mac s _ T (by exact h) hs HT))
    | (go_at_call 33; exact quiet_add_same (plus s.fr T _ r0 (by omega) T0 (by omega)))))
  go_wp2
  refine over_draws (w := w) (F := fun W => Code.wp _ _ _ _ W) (fun W0 hW0 => ?_)
  have e6 : W0.cell? ⟨b, 6, none⟩ = some (.int .i64 5) := by rw [hW0]; exact c6
  have ef : W0.cell? ⟨b, 48, none⟩ = some (.func (Fn.func 31) #[.pointer (some ⟨b, 0, none⟩)] #[]) := by rw [hW0]; exact cf
  have hI0 : IsC W0 b mac s := by rw [hW0]; exact h
  have hG0 : w.grownBy W0 (some b) := by rw [hW0]; exact only_drewN (World.grownBy.refl _ _) _
  clear hW0 c6 cf c8
  have hx : ∀ (a : Addr) (n : Nat), ({ W0 with drawn := n } : World).cell? a = W0.cell? a := fun _ _ => rfl
  go_still_tail 11, (by kernel_rfl)
  clear hx
  change wpList _ _ _ _ _ (World.drew _)
  generalize hW : World.drew _ = W
  have hI : IsC W b mac s := by rw [← hW]; exact hI0
  have hG : w.grownBy W (some b) := by rw [← hW]; exact only_drew hG0
  clear hW
  go_wp2_with fail
  refine (renewsC b mac s now draw _ hI hs (by rw [HK.out]; decide) h0 h1).mono ?_
  rintro e w1 ⟨v, rfl, ho, hC, hg⟩
  go_wp2
  go_ret
  exact ⟨v, rfl, ho.more hG.size, hC, only_trans hG hg⟩
end Go.Proofs.Ytgdlghieifadhaa
