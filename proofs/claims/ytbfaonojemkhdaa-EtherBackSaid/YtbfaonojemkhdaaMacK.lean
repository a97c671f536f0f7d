/-
  A group's address, and the text that the laws of ether look at each time.
-/
import Derived.Test.YtbfaonojemkhdaaMacP
import Derived.Test.YtbfaonojemkhdaaLaw
set_option linter.unusedVariables false
namespace Go.Proofs.Ytbfaonojemkhdaa
open Go.RowKit Go.ChangeShapes Go.WideShapes Go.ChangeAt

def groupMac (a : Int) : Mac := ⟨1, 0, 94, u8 (a / 65536 % 128), u8 (a / 256 % 256), u8 (a % 256)⟩
theorem and127_fin : ∀ a : Fin 256, bits .and .u8 (a.val : Int) 127 = (a.val : Int) % 128 := by decide +kernel
theorem and127 (a : Int) : bits .and .u8 (a % 256) 127 = a % 128 := by
  have := and127_fin ⟨(a % 256).toNat, by omega⟩
  rw [show (((⟨(a % 256).toNat, by omega⟩ : Fin 256).val : Nat) : Int) = a % 256 by simp; omega] at this
  rw [this]; omega
theorem groupMac_v (a : Int) : Value.agg #[.int .u8 1, .int .u8 0, .int .u8 94, .int .u8 (bits .and .u8 (a / 65536 % 256) 127), .int .u8 (a / 256 % 256), .int .u8 (a % 256)] = (groupMac a).v := by
  have e1 := u8_nat (a / 65536 % 128) (by omega) (by omega)
  have e2 := u8_nat (a / 256 % 256) (by omega) (by omega)
  have e3 := u8_nat (a % 256) (by omega) (by omega)
  simp only [Mac.v, groupMac, e1, e2, e3, and127]
  rfl
set_option maxHeartbeats 400000 in
theorem ofGroup (a : Int) (w : World) (h0 : 0 ≤ a) (h1 : a ≤ 4294967295) :
    Calls Try.prog 16 #[.int .u32 a] w fun e w' => e = .returned (groupMac a).v ∧ Below w.heap.size w w' := by
  go_enter Try.func16, Try.ntmps16
  go_wp2
  rw [← groupMac_v]
  exact bodyPost_ret (results_cell_row rfl _ _ _ _ _ _ _ rfl (heap_alloc_new w _) Try.underlying23 rfl (by kernel_rfl)) rfl ⟨rfl, (Below.refl _ _).alloc (Nat.le_refl _) _⟩
set_option maxHeartbeats 400000 in
theorem rofGroup (a : Int) (w : World) (h0 : 0 ≤ a) (h1 : a ≤ 4294967295) :
    Calls Try.prog 17 #[.int .u32 a] w fun e w' => e = .returned (groupMac a).v ∧ Below w.heap.size w w' := by
  go_enter Try.func17, Try.ntmps17
  go_wp2
  rw [← groupMac_v]
  exact bodyPost_ret (results_cell_row rfl _ _ _ _ _ _ _ rfl (heap_alloc_new w _) Try.underlying23 rfl (by kernel_rfl)) rfl ⟨rfl, (Below.refl _ _).alloc (Nat.le_refl _) _⟩

theorem ofGroup_lit (a : Int) (w : World) (h0 : 0 ≤ a) (h1 : a ≤ 4294967295) : Calls Try.prog 16 #[.int .u32 a] w fun e w' =>
    e = .returned (.agg #[.int .u8 (groupMac a).a.toNat, .int .u8 (groupMac a).b.toNat, .int .u8 (groupMac a).c.toNat, .int .u8 (groupMac a).d.toNat, .int .u8 (groupMac a).e.toNat, .int .u8 (groupMac a).f.toNat]) ∧ Below w.heap.size w w' := ofGroup a w h0 h1
theorem rofGroup_lit (a : Int) (w : World) (h0 : 0 ≤ a) (h1 : a ≤ 4294967295) : Calls Try.prog 17 #[.int .u32 a] w fun e w' =>
    e = .returned (.agg #[.int .u8 (groupMac a).a.toNat, .int .u8 (groupMac a).b.toNat, .int .u8 (groupMac a).c.toNat, .int .u8 (groupMac a).d.toNat, .int .u8 (groupMac a).e.toNat, .int .u8 (groupMac a).f.toNat]) ∧ Below w.heap.size w w' := rofGroup a w h0 h1
def kt : ByteArray := ⟨#[48, 50, 58, 48, 48, 58, 48, 48, 58, 48, 48, 58, 48, 48, 58, 48, 65]⟩
theorem parse_known (w : World) : Calls Try.prog 10 #[.string ⟨#[48, 50, 58, 48, 48, 58, 48, 48, 58, 48, 48, 58, 48, 48, 58, 48, 65]⟩] w fun e w' =>
    e = .returned (.tuple #[.agg #[.int .u8 2, .int .u8 0, .int .u8 0, .int .u8 0, .int .u8 0, .int .u8 10], .int .i64 0]) ∧ Below w.heap.size w w' :=
  (parse kt w (by decide)).mono fun e w' h => ⟨h.1.trans (by kernel_rfl), h.2⟩
theorem text_known (w : World) : Calls Try.prog 9 #[.agg #[.int .u8 2, .int .u8 0, .int .u8 0, .int .u8 0, .int .u8 0, .int .u8 10]] w fun e w' =>
    e = .returned (.string ⟨#[48, 50, 58, 48, 48, 58, 48, 48, 58, 48, 48, 58, 48, 48, 58, 48, 97]⟩) ∧ Below w.heap.size w w' :=
  (text ⟨2, 0, 0, 0, 0, 10⟩ w).mono fun e w' h => ⟨h.1.trans (by kernel_rfl), h.2⟩
theorem group_known (w : World) : Calls Try.prog 16 #[.int .u32 4018209283] w fun e w' =>
    e = .returned (.agg #[.int .u8 1, .int .u8 0, .int .u8 94, .int .u8 1, .int .u8 2, .int .u8 3]) ∧ Below w.heap.size w w' :=
  (ofGroup 4018209283 w (by decide) (by decide)).mono fun e w' h => ⟨h.1.trans (by kernel_rfl), h.2⟩
theorem eql_mac (a0 a1 a2 a3 a4 a5 b0 b1 b2 b3 b4 b5 : Int) (w : World) : (binOp .eql 23 (.agg #[.int .u8 a0, .int .u8 a1, .int .u8 a2, .int .u8 a3, .int .u8 a4, .int .u8 a5]) (.agg #[.int .u8 b0, .int .u8 b1, .int .u8 b2, .int .u8 b3, .int .u8 b4, .int .u8 b5])).run Try.prog w =
    .ok (.bool ([a0, a1, a2, a3, a4, a5] == [b0, b1, b2, b3, b4, b5])) w :=
  run_eql_ints w Try.underlying23 (by kernel_rfl) (by kernel_rfl) Try.underlying5 Try.isAgg5 [a0, a1, a2, a3, a4, a5] [b0, b1, b2, b3, b4, b5] rfl rfl
theorem Mac.beq_iff (m n : Mac) : ([(m.a.toNat : Int), m.b.toNat, m.c.toNat, m.d.toNat, m.e.toNat, m.f.toNat] == [(n.a.toNat : Int), n.b.toNat, n.c.toNat, n.d.toNat, n.e.toNat, n.f.toNat]) = true ↔ m = n := by
  cases m; cases n
  simp [Mac.mk.injEq, Int.natCast_inj, UInt8.toNat_inj]
theorem Mac.v_inj {m n : Mac} (h : m.v = n.v) : m = n := by
  cases m; cases n
  simp [Mac.v, Int.natCast_inj, UInt8.toNat_inj] at h
  simp [h]
open Classical in
noncomputable def Mac.same (m n : Mac) : Bool := decide (m = n)
theorem eql_macv (m n : Mac) (w : World) : (binOp .eql 23 m.v n.v).run Try.prog w = .ok (.bool (m.same n)) w := by
  rw [Mac.v, Mac.v, eql_mac]
  congr 2
  unfold Mac.same
  rw [Bool.eq_iff_iff, Mac.beq_iff]; simp
theorem Mac.same_comm (m n : Mac) : m.same n = n.same m := by unfold Mac.same; rw [Bool.eq_iff_iff]; simp [eq_comm]
theorem Mac.same_self (m : Mac) : m.same m = true := by simp [Mac.same]
theorem eql_ll (m n : Mac) (w : World) : (binOp .eql 23 (.agg #[.int .u8 m.a.toNat, .int .u8 m.b.toNat, .int .u8 m.c.toNat, .int .u8 m.d.toNat, .int .u8 m.e.toNat, .int .u8 m.f.toNat]) (.agg #[.int .u8 n.a.toNat, .int .u8 n.b.toNat, .int .u8 n.c.toNat, .int .u8 n.d.toNat, .int .u8 n.e.toNat, .int .u8 n.f.toNat])).run Try.prog w = .ok (.bool (m.same n)) w := eql_macv m n w
theorem eql_lv (m n : Mac) (w : World) : (binOp .eql 23 (.agg #[.int .u8 m.a.toNat, .int .u8 m.b.toNat, .int .u8 m.c.toNat, .int .u8 m.d.toNat, .int .u8 m.e.toNat, .int .u8 m.f.toNat]) n.v).run Try.prog w = .ok (.bool (m.same n)) w := eql_macv m n w
theorem eql_vl (m n : Mac) (w : World) : (binOp .eql 23 n.v (.agg #[.int .u8 m.a.toNat, .int .u8 m.b.toNat, .int .u8 m.c.toNat, .int .u8 m.d.toNat, .int .u8 m.e.toNat, .int .u8 m.f.toNat])).run Try.prog w = .ok (.bool (m.same n)) w := (eql_macv n m w).trans (by rw [Mac.same_comm])
def allMac : Mac := ⟨255, 255, 255, 255, 255, 255⟩
theorem eql_all (m : Mac) (w : World) : (binOp .eql 23 (.agg #[.int .u8 m.a.toNat, .int .u8 m.b.toNat, .int .u8 m.c.toNat, .int .u8 m.d.toNat, .int .u8 m.e.toNat, .int .u8 m.f.toNat]) (.agg #[.int .u8 255, .int .u8 255, .int .u8 255, .int .u8 255, .int .u8 255, .int .u8 255])).run Try.prog w = .ok (.bool (m.same allMac)) w := eql_macv m allMac w
set_option maxHeartbeats 400000 in
theorem known (w : World) : Calls Try.prog 12 #[] w fun e w' => e = .returned (.bool true) ∧ Below w.heap.size w w' := by
  have hq := eql_mac 1 0 94 1 2 3 1 0 94 1 2 3
  rw [show ([1, 0, 94, 1, 2, 3] == [(1 : Int), 0, 94, 1, 2, 3]) = true from rfl] at hq
  go_enter Try.func12, Try.ntmps12
  go_wp2_with fail
  refine (parse_known _).mono ?_
  rintro e w1 ⟨rfl, hb1⟩
  go_wp2_with fail
  refine (text_known _).mono ?_
  rintro e w2 ⟨rfl, hb2⟩
  go_wp2_with fail
  refine (group_known _).mono ?_
  rintro e w3 ⟨rfl, hb3⟩
  go_wp2_with fail
  go_ret
  exact ⟨rfl, nx (nx (al hb1 _) hb2) hb3⟩

theorem wf_u8 {n : Int} (h : (Lit.int .u8 n).wf = true) : 0 ≤ n ∧ n ≤ 255 := bounds_u8 h
theorem open_mac {H : Type} {enc : TypeId × Value → H} {w : World} {base b0 : Nat} {r : Reach} {sp : Nat → Bool} {held : Bool} {v : Value} {d : DataW H} {p : List MemPlace}
    (hv : Value.okWide Try.prog w r b0 23 v) (h : DataW.Trod enc Try.prog w base sp held 23 v d p) : ∃ m : Mac, v = m.v := by
  obtain ⟨xs, rfl, hl, hw⟩ := open_array_ints Try.underlying23 Try.underlying5 (by kernel_rfl) (by kernel_rfl) hv h
  match xs, hl with
  | [a, b, c, d, e, f], _ =>
    have ha := wf_u8 (hw a (by simp)); have hb := wf_u8 (hw b (by simp)); have hc := wf_u8 (hw c (by simp)); have hd := wf_u8 (hw d (by simp)); have he := wf_u8 (hw e (by simp)); have hf := wf_u8 (hw f (by simp))
    refine ⟨⟨u8 a, u8 b, u8 c, u8 d, u8 e, u8 f⟩, ?_⟩
    simp only [Mac.v, u8_nat _ ha.1 ha.2, u8_nat _ hb.1 hb.2, u8_nat _ hc.1 hc.2, u8_nat _ hd.1 hd.2, u8_nat _ he.1 he.2, u8_nat _ hf.1 hf.2]
    rfl
end Go.Proofs.Ytbfaonojemkhdaa
