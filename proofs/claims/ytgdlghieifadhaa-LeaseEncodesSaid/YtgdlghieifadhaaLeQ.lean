/-
  Lease: the reference's Encode. Printed by gen_leq.py.
-/
import Derived.Test.YtgdlghieifadhaaLeR
import Derived.Test.YtgdlghieifadhaaApz
set_option linter.unusedVariables false
namespace Go.Proofs.Ytgdlghieifadhaa
open Go.RowKit

theorem zs_cells (k : Nat) : (Builtin.zeroCells (Value.int .u8 0).cells k).toList = Lib.byteCells (zs k) := zero_bytes k
theorem one_lit (v : Int) (h0 : 0 ≤ v) (h1 : v ≤ 255) : Lib.byteCells (beB v.toNat 1) = [.int .u8 v] := by
  have e : ((UInt8.ofNat (v.toNat / 256 ^ 0 % 256)).toNat : Int) = v := by simp only [Nat.reducePow, UInt8.toNat_ofNat']; omega
  simp only [beB, Lib.byteCells, List.map_cons, List.map_nil, e]
theorem lit4 (op : Int) (h0 : 0 ≤ op) (h1 : op ≤ 255) : [Value.int .u8 op, .int .u8 1, .int .u8 6, .int .u8 0] = Lib.byteCells (beB op.toNat 1 ++ beB 1 1 ++ beB 6 1 ++ beB 0 1) := by
  rw [byteCells_app, byteCells_app, byteCells_app, one_lit op h0 h1]
  rfl
theorem lit7 (ty : Int) (h0 : 0 ≤ ty) (h1 : ty ≤ 255) : [Value.int .u8 99, .int .u8 130, .int .u8 83, .int .u8 99, .int .u8 53, .int .u8 1, .int .u8 ty] = Lib.byteCells (beB 1669485411 4 ++ beB 53 1 ++ beB 1 1 ++ beB ty.toNat 1) := by
  rw [byteCells_app, byteCells_app, byteCells_app, one_lit ty h0 h1]
  rfl
theorem ne_nil {A : Option Addr} {n c : Nat} (h : 0 < n) : Value.slice A n c ≠ .slice none 0 0 := fun e => by injection e; omega
theorem own_app {w : World} {base : Nat} {v : Value} {n m N : Nat} {a b l : List UInt8} (h : w.ownsRow base 5 1 v (n + m) (Lib.byteCells a ++ Lib.byteCells b)) (hl : a ++ b = l) (hn : n + m = N) : w.ownsRow base 5 1 v N (Lib.byteCells l) := by
  subst hl hn
  rw [byteCells_app]
  exact h
set_option maxRecDepth 100000 in
set_option maxHeartbeats 3200000 in
theorem le_renc (w : World) (m : Ls) (ok : LsOk m) (gd : LsGood m) : Calls Try.prog 26 #[m.val] w fun e w' => ∃ A c, e = .returned (.tuple #[.slice A (leB m).length c, .int .i64 0]) ∧ w'.ownsRow w.heap.size 5 1 (.slice A (leB m).length c) (leB m).length (Lib.byteCells (leB m)) ∧ Below w.heap.size w w' := by
  obtain ⟨t0, t1⟩ := And.intro gd.t0 gd.t1
  obtain ⟨ty0, ty1⟩ := And.intro gd.ty0 gd.ty1
  have op0 : 1 ≤ m.op := by rcases gd.op with h | h <;> omega
  have op1 : m.op ≤ 2 := by rcases gd.op with h | h <;> omega
  have OK := Lib.hid ok
  have B0 : Hid (Below w.heap.size w (w.alloc (.cells #[.int .i64 m.op, .int .u32 m.id, .int .u32 m.yours, .int .u8 m.cl.a, .int .u8 m.cl.b, .int .u8 m.cl.c, .int .u8 m.cl.d, .int .u8 m.cl.e, .int .u8 m.cl.f, .int .i64 m.ty, .int .u32 m.server, .int .u32 m.asked, .int .i64 m.time, .int .u32 m.mask, .int .u32 m.router, .int .u32 m.resolver] 27))) := al (rf w) _
  have X0 : Hid (Blk (w.alloc (.cells #[.int .i64 m.op, .int .u32 m.id, .int .u32 m.yours, .int .u8 m.cl.a, .int .u8 m.cl.b, .int .u8 m.cl.c, .int .u8 m.cl.d, .int .u8 m.cl.e, .int .u8 m.cl.f, .int .i64 m.ty, .int .u32 m.server, .int .u32 m.asked, .int .i64 m.time, .int .u32 m.mask, .int .u32 m.router, .int .u32 m.resolver] 27)) w.heap.size 27 m.cs.toArray) := Blk.new w 27 #[.int .i64 m.op, .int .u32 m.id, .int .u32 m.yours, .int .u8 m.cl.a, .int .u8 m.cl.b, .int .u8 m.cl.c, .int .u8 m.cl.d, .int .u8 m.cl.e, .int .u8 m.cl.f, .int .i64 m.ty, .int .u32 m.server, .int .u32 m.asked, .int .i64 m.time, .int .u32 m.mask, .int .u32 m.router, .int .u32 m.resolver]
  have kop : IntKind.u8.wrap m.op = m.op := by rw [IntKind.wrap_u8]; omega
  have kty : IntKind.u8.wrap m.ty = m.ty := by rw [IntKind.wrap_u8]; omega
  have ktm : IntKind.u32.wrap m.time = m.time := by rw [IntKind.wrap_u32]; omega
  have d1 := X0.out.cell 0
  have d2 := X0.out.cell 9
  have d3 := X0.out.cell 12
  simp only [Ls.cs, List.getElem?_toArray, List.getElem?_cons_zero, List.getElem?_cons_succ] at d1 d2 d3
  have g1 : decide (m.op < 1) = false := by simp; omega
  have g2 : decide (2 < m.op) = false := by simp; omega
  have g3 : decide (m.ty < 1) = false := by simp; omega
  have g4 : decide (7 < m.ty) = false := by simp; omega
  have g5 : decide (m.time < 0) = false := by simp; omega
  have g6 : decide (2147483647 < m.time) = false := by simp; omega
  unfold Ls.val
  clear ok gd
  go_enter Try.func26, Try.ntmps26
  go_wp2
  clear d1 d2 d3
  have hWs : (w.alloc (.cells #[.int .i64 m.op, .int .u32 m.id, .int .u32 m.yours, .int .u8 m.cl.a, .int .u8 m.cl.b, .int .u8 m.cl.c, .int .u8 m.cl.d, .int .u8 m.cl.e, .int .u8 m.cl.f, .int .i64 m.ty, .int .u32 m.server, .int .u32 m.asked, .int .i64 m.time, .int .u32 m.mask, .int .u32 m.router, .int .u32 m.resolver] 27)).heap.size = w.heap.size + 1 := by simp
  generalize (w.alloc (.cells #[.int .i64 m.op, .int .u32 m.id, .int .u32 m.yours, .int .u8 m.cl.a, .int .u8 m.cl.b, .int .u8 m.cl.c, .int .u8 m.cl.d, .int .u8 m.cl.e, .int .u8 m.cl.f, .int .i64 m.ty, .int .u32 m.server, .int .u32 m.asked, .int .i64 m.time, .int .u32 m.mask, .int .u32 m.router, .int .u32 m.resolver] 27)) = W at B0 X0 hWs ⊢
  have CC : Hid (∀ w', Below (w.heap.size + 1) W w' → w'.cell? ⟨w.heap.size, 0, none⟩ = some (.int .i64 m.op) ∧ w'.cell? ⟨w.heap.size, 1, none⟩ = some (.int .u32 m.id)) := fun w' h => ⟨(X0.out.below h (by omega)).cell 0, (X0.out.below h (by omega)).cell 1⟩
  have HLIT : Hid (∀ V : World, w.heap.size + 1 ≤ V.heap.size → (V.alloc (.cells #[.int .u8 m.op, .int .u8 1, .int .u8 6, .int .u8 0] 5)).ownsRow (w.heap.size + 1) 5 1 (.slice (some ⟨V.heap.size, 0, none⟩) 4 4) 4 (Lib.byteCells (beB m.op.toNat 1 ++ beB 1 1 ++ beB 6 1 ++ beB 0 1))) := fun V h => by
    rw [← lit4 m.op (by omega) (by omega)]
    exact own_lit V _ 4 rfl h (by unfold maxLen; omega) rfl
  have k0 : W.cell? ⟨w.heap.size, 0, none⟩ = some (.int .i64 m.op) := X0.out.cell 0
  have k1 : W.cell? ⟨w.heap.size, 1, none⟩ = some (.int .u32 m.id) := X0.out.cell 1
  have id0 := OK.out.id0
  have id1 := OK.out.id1
  have HL1 : Hid ((W.alloc (.cells #[.int .u8 m.op, .int .u8 1, .int .u8 6, .int .u8 0] 5)).drew.ownsRow (w.heap.size + 1) 5 1 (.slice (some ⟨w.heap.size + 1, 0, none⟩) 4 4) 4 (Lib.byteCells (beB m.op.toNat 1 ++ beB 1 1 ++ beB 6 1 ++ beB 0 1))) := by
    have h := HLIT.out W (by omega)
    rw [hWs] at h
    exact h
  have KD : Hid (Below (w.heap.size + 1) W W.drew ∧ W.drew.cell? ⟨w.heap.size, 0, none⟩ = some (.int .i64 m.op) ∧ W.drew.cell? ⟨w.heap.size, 1, none⟩ = some (.int .u32 m.id)) := ⟨(rf W).drew.mono (by omega), CC.out _ ((rf W).drew.mono (by omega))⟩
  have KA : Hid (∀ (V : World) (o : Obj), (Below (w.heap.size + 1) W V ∧ V.cell? ⟨w.heap.size, 0, none⟩ = some (.int .i64 m.op) ∧ V.cell? ⟨w.heap.size, 1, none⟩ = some (.int .u32 m.id)) → (Below (w.heap.size + 1) W (V.alloc o) ∧ (V.alloc o).cell? ⟨w.heap.size, 0, none⟩ = some (.int .i64 m.op) ∧ (V.alloc o).cell? ⟨w.heap.size, 1, none⟩ = some (.int .u32 m.id))) := fun V o h => ⟨h.1.alloc (by have := h.1.size; omega) o, CC.out _ (h.1.alloc (by have := h.1.size; omega) o)⟩
  have KE : Hid (∀ (o : Obj), (Below (w.heap.size + 1) W (W.alloc o).drew ∧ (W.alloc o).drew.cell? ⟨w.heap.size, 0, none⟩ = some (.int .i64 m.op) ∧ (W.alloc o).drew.cell? ⟨w.heap.size, 1, none⟩ = some (.int .u32 m.id))) := fun o => ⟨((rf W).alloc (Nat.le_refl _) o).drew.mono (by omega), CC.out _ (((rf W).alloc (Nat.le_refl _) o).drew.mono (by omega))⟩
  have KB : Hid (∀ (V U : World), (Below (w.heap.size + 1) W V ∧ V.cell? ⟨w.heap.size, 0, none⟩ = some (.int .i64 m.op) ∧ V.cell? ⟨w.heap.size, 1, none⟩ = some (.int .u32 m.id)) → Below (w.heap.size + 1) V U → (Below (w.heap.size + 1) W U ∧ U.cell? ⟨w.heap.size, 0, none⟩ = some (.int .i64 m.op) ∧ U.cell? ⟨w.heap.size, 1, none⟩ = some (.int .u32 m.id))) := fun V U h k => ⟨h.1.trans k, CC.out _ (h.1.trans k)⟩
  have KT : Hid (∀ (V U : World), (Below (w.heap.size + 1) W V ∧ V.cell? ⟨w.heap.size, 0, none⟩ = some (.int .i64 m.op) ∧ V.cell? ⟨w.heap.size, 1, none⟩ = some (.int .u32 m.id)) → Below V.heap.size V U → (Below (w.heap.size + 1) W U ∧ U.cell? ⟨w.heap.size, 0, none⟩ = some (.int .i64 m.op) ∧ U.cell? ⟨w.heap.size, 1, none⟩ = some (.int .u32 m.id))) := fun V U h k => ⟨h.1.trans (k.mono (by have := h.1.size; omega)), CC.out _ (h.1.trans (k.mono (by have := h.1.size; omega)))⟩
  go_region_held3 (fun w' => (Below (w.heap.size + 1) W w' ∧ w'.cell? ⟨w.heap.size, 0, none⟩ = some (.int .i64 m.op) ∧ w'.cell? ⟨w.heap.size, 1, none⟩ = some (.int .u32 m.id))) (with_reducible (first | exact KD.out | exact KE.out _ | exact KA.out _ _ (by assumption) | exact KT.out _ _ (by assumption) b2 | exact KB.out _ _ (by assumption) bel3 | fail))
    (first
      | (go_at_call 50; refine (le_rfour _ m.id id0 id1).mono ?_; rintro e w2 ⟨g2, rfl, o2, b2⟩)
      | (refine step_app stB rfl (.tmp 36) (.tmp 39) rfl (w.heap.size + 1) _ 4 _ rfl (by first | exact own_nx HL1.out b2 | exact HLIT.out _ (by have := b2.size; simp at this ⊢; omega)) _ 4 4 (Lib.byteCells (beB m.id.toNat 4)) rfl (by first | exact Reads.of_own o2 | exact Reads.of_own (own_nx o2 (al (rf w2) _))) (one_u8 _) (by omega) (by omega) (by have := b2.size; simp at this ⊢; omega) ?_; intro v3 w3 own3 gr3 at3 bel3)
      | fail)
  all_goals
    rename_i hH
    have hB3 := hH.1
    clear hH HL1 HLIT CC k0 k1 KE KB KD KA KT g1 g3 g4 g5 g6 kop
    obtain ⟨l3, hl3⟩ : ∃ l, (beB m.op.toNat 1 ++ beB 1 1 ++ beB 6 1 ++ beB 0 1) ++ beB m.id.toNat 4 = l := ⟨_, rfl⟩
    obtain ⟨n3, hn3⟩ : ∃ n, 4 + 4 = n := ⟨_, rfl⟩
    have O3 := Lib.hid (own_app own3 hl3 hn3)
    obtain ⟨A3, c3, rfl⟩ := own_slice O3.out
    have X3 := Lib.hid (X0.out.below hB3 (by omega))
    have B3 := Lib.hid (B0.out.trans (hB3.mono (by omega)))
    have z3 := hB3.size
    have N3 : 0 < n3 := by omega
    have M3 : n3 ≤ 8 := by omega
    have HL3 := Lib.hid hl3
    clear own3 gr3 at3 bel3 hB3 hl3 hn3 o2 b2
    have HR9 : Hid (∀ (V : World) (g : Nat), g = V.heap.size → Reads (V.alloc (.cells #[.int .u8 99, .int .u8 130, .int .u8 83, .int .u8 99, .int .u8 53, .int .u8 1, .int .u8 m.ty] 5)) (V.alloc (.cells #[.int .u8 99, .int .u8 130, .int .u8 83, .int .u8 99, .int .u8 53, .int .u8 1, .int .u8 m.ty] 5)).heap.size 1 (some ⟨g, 0, none⟩) 7 (Lib.byteCells (beB 1669485411 4 ++ beB 53 1 ++ beB 1 1 ++ beB m.ty.toNat 1))) := fun V g hg => Reads.blk (blk_at V _ _ hg) rfl (lit7 m.ty (by omega) (by omega)).symm
    have HR16 : Hid (∀ (V : World) (g : Nat), g = V.heap.size → Reads (V.alloc (.cells #[.int .u8 255] 5)) (V.alloc (.cells #[.int .u8 255] 5)).heap.size 1 (some ⟨g, 0, none⟩) 1 (Lib.byteCells (beB 255 1))) := fun V g hg => Reads.blk (blk_at V _ _ hg) rfl rfl
    have y0 := OK.out.y0
    have y1 := OK.out.y1
    have q54 := (OK.out.o (54, m.server) (by simp [optsL])).2.2 (by show (54 : Int) ≠ 51; decide)
    have q50 := (OK.out.o (50, m.asked) (by simp [optsL])).2.2 (by show (50 : Int) ≠ 51; decide)
    have q1 := (OK.out.o (1, m.mask) (by simp [optsL])).2.2 (by show (1 : Int) ≠ 51; decide)
    have q3 := (OK.out.o (3, m.router) (by simp [optsL])).2.2 (by show (3 : Int) ≠ 51; decide)
    have q6 := (OK.out.o (6, m.resolver) (by simp [optsL])).2.2 (by show (6 : Int) ≠ 51; decide)
    go_wp2_with (at_builtin; refine app_zeros stB Try.underlying3 rfl (.tmp 41) (.const (.int .i64 8)) rfl (w.heap.size + 1) _ n3 (Lib.byteCells l3) rfl O3.out (ne_nil N3) 8 .i64 rfl (by omega) (Lib.byteCells (zs 8)) (zs_cells 8) (one_u8 _) (by omega) (by omega) (by omega) ?_; intro v4 w4 own4 gr4 at4 bel4; obtain ⟨l4, hl4⟩ : ∃ l, l3 ++ zs 8 = l := ⟨_, rfl⟩; obtain ⟨n4, hn4⟩ : ∃ n, n3 + 8 = n := ⟨_, rfl⟩; have O4 := Lib.hid (own_app own4 hl4 hn4); obtain ⟨A4, c4, rfl⟩ := own_slice O4.out; have X4 := Lib.hid (X3.out.below bel4 (by omega)); have B4 := Lib.hid (B3.out.trans (bel4.mono (by omega))); have z4 := bel4.size; have N4 : 0 < n4 := (by omega); have M4 : n4 ≤ 16 := Nat.le_trans (Nat.le_of_eq hn4.symm) (Nat.add_le_add M3 (Nat.le_refl _)); have HL4 := Lib.hid hl4; have d4 := X4.out.cell 2; simp only [Ls.cs, List.getElem?_toArray, List.getElem?_cons_zero, List.getElem?_cons_succ] at d4; clear own4 gr4 at4 bel4 hl4 hn4)
    go_wp2_with fail
    refine (le_rfour _ m.yours (by omega) (by omega)).mono ?_
    rintro e w5a ⟨g5, rfl, o5, b5⟩
    have b5B : Below (w.heap.size + 1) w4 w5a := b5.mono (by omega)
    have Y5 := Lib.hid (own_nx O4.out b5)
    have Q5 := Lib.hid (Reads.of_own o5)
    have Xa5 := Lib.hid (X4.out.below b5B (by omega))
    have Ba5 := Lib.hid (B4.out.trans (b5.mono (by omega)))
    have za5 := b5.size
    clear o5 b5 b5B
    go_wp2_with (first
      | (at_builtin; refine app_any stB rfl (.tmp 43) (.tmp 46) rfl (w.heap.size + 1) _ n4 (Lib.byteCells l4) rfl Y5.out _ 4 4 (Lib.byteCells (beB m.yours.toNat 4)) rfl Q5.out (one_u8 _) (by omega) (by omega) (by first | omega | (simp; omega)) ?_; intro v5 w5 own5 gr5 at5 bel5; obtain ⟨l5, hl5⟩ : ∃ l, l4 ++ (beB m.yours.toNat 4) = l := ⟨_, rfl⟩; obtain ⟨n5, hn5⟩ : ∃ n, n4 + 4 = n := ⟨_, rfl⟩; have O5 := Lib.hid (own_app own5 hl5 hn5); obtain ⟨A5, c5, rfl⟩ := own_slice O5.out; have X5 := Lib.hid (Xa5.out.below bel5 (by omega)); have B5 := Lib.hid (Ba5.out.trans (bel5.mono (by omega))); have z5 := bel5.size; have N5 : 0 < n5 := (by omega); have M5 : n5 ≤ 20 := Nat.le_trans (Nat.le_of_eq hn5.symm) (Nat.add_le_add M4 (Nat.le_refl _)); have HL5 := Lib.hid hl5; clear own5 gr5 at5 bel5 hl5 hn5)
      | (at_builtin; refine app_zeros stB Try.underlying3 rfl (.tmp 48) (.const (.int .i64 8)) rfl (w.heap.size + 1) _ n5 (Lib.byteCells l5) rfl O5.out (ne_nil N5) 8 .i64 rfl (by omega) (Lib.byteCells (zs 8)) (zs_cells 8) (one_u8 _) (by omega) (by omega) (by omega) ?_; intro v6 w6 own6 gr6 at6 bel6; obtain ⟨l6, hl6⟩ : ∃ l, l5 ++ zs 8 = l := ⟨_, rfl⟩; obtain ⟨n6, hn6⟩ : ∃ n, n5 + 8 = n := ⟨_, rfl⟩; have O6 := Lib.hid (own_app own6 hl6 hn6); obtain ⟨A6, c6, rfl⟩ := own_slice O6.out; have X6 := Lib.hid (X5.out.below bel6 (by omega)); have B6 := Lib.hid (B5.out.trans (bel6.mono (by omega))); have z6 := bel6.size; have N6 : 0 < n6 := (by omega); have M6 : n6 ≤ 28 := Nat.le_trans (Nat.le_of_eq hn6.symm) (Nat.add_le_add M5 (Nat.le_refl _)); have HL6 := Lib.hid hl6; clear own6 gr6 at6 bel6 hl6 hn6)
      | (at_builtin; refine app_any stB rfl (.tmp 50) (.tmp 52) rfl (w.heap.size + 1) _ n6 (Lib.byteCells l6) rfl O6.out (some ⟨w.heap.size, 3, none⟩) 6 6 (Lib.byteCells (macB m.cl)) rfl (mac_bytes OK.out X6.out) (one_u8 _) (by omega) (by omega) (by first | omega | (simp; omega)) ?_; intro v7 w7 own7 gr7 at7 bel7; obtain ⟨l7, hl7⟩ : ∃ l, l6 ++ (macB m.cl) = l := ⟨_, rfl⟩; obtain ⟨n7, hn7⟩ : ∃ n, n6 + 6 = n := ⟨_, rfl⟩; have O7 := Lib.hid (own_app own7 hl7 hn7); obtain ⟨A7, c7, rfl⟩ := own_slice O7.out; have X7 := Lib.hid (X6.out.below bel7 (by omega)); have B7 := Lib.hid (B6.out.trans (bel7.mono (by omega))); have z7 := bel7.size; have N7 : 0 < n7 := (by omega); have M7 : n7 ≤ 34 := Nat.le_trans (Nat.le_of_eq hn7.symm) (Nat.add_le_add M6 (Nat.le_refl _)); have HL7 := Lib.hid hl7; clear own7 gr7 at7 bel7 hl7 hn7)
      | (at_builtin; refine app_zeros stB Try.underlying3 rfl (.tmp 54) (.const (.int .i64 202)) rfl (w.heap.size + 1) _ n7 (Lib.byteCells l7) rfl O7.out (ne_nil N7) 202 .i64 rfl (by omega) (Lib.byteCells (zs 202)) (zs_cells 202) (one_u8 _) (by omega) (by omega) (by omega) ?_; intro v8 w8 own8 gr8 at8 bel8; obtain ⟨l8, hl8⟩ : ∃ l, l7 ++ zs 202 = l := ⟨_, rfl⟩; obtain ⟨n8, hn8⟩ : ∃ n, n7 + 202 = n := ⟨_, rfl⟩; have O8 := Lib.hid (own_app own8 hl8 hn8); obtain ⟨A8, c8, rfl⟩ := own_slice O8.out; have X8 := Lib.hid (X7.out.below bel8 (by omega)); have B8 := Lib.hid (B7.out.trans (bel8.mono (by omega))); have z8 := bel8.size; have N8 : 0 < n8 := (by omega); have M8 : n8 ≤ 236 := Nat.le_trans (Nat.le_of_eq hn8.symm) (Nat.add_le_add M7 (Nat.le_refl _)); have HL8 := Lib.hid hl8; have d8 := X8.out.cell 9; simp only [Ls.cs, List.getElem?_toArray, List.getElem?_cons_zero, List.getElem?_cons_succ] at d8; have Xa9 := Lib.hid (X8.out.alloc (.cells #[.int .u8 99, .int .u8 130, .int .u8 83, .int .u8 99, .int .u8 53, .int .u8 1, .int .u8 m.ty] 5)); have Ba9 : Hid (Below w.heap.size w (w8.alloc (.cells #[.int .u8 99, .int .u8 130, .int .u8 83, .int .u8 99, .int .u8 53, .int .u8 1, .int .u8 m.ty] 5))) := B8.out.alloc (by omega) _; have Y9 := Lib.hid (own_nx O8.out (al (rf w8) (.cells #[.int .u8 99, .int .u8 130, .int .u8 83, .int .u8 99, .int .u8 53, .int .u8 1, .int .u8 m.ty] 5))); clear own8 gr8 at8 bel8 hl8 hn8)
      | (at_builtin; refine app_any stB rfl (.tmp 56) (.tmp 60) rfl (w.heap.size + 1) _ n8 (Lib.byteCells l8) rfl Y9.out _ 7 7 (Lib.byteCells (beB 1669485411 4 ++ beB 53 1 ++ beB 1 1 ++ beB m.ty.toNat 1)) rfl (HR9.out w8 _ (by simp)) (one_u8 _) (by omega) (by omega) (by first | omega | (simp; omega)) ?_; intro v9 w9 own9 gr9 at9 bel9; obtain ⟨l9, hl9⟩ : ∃ l, l8 ++ (beB 1669485411 4 ++ beB 53 1 ++ beB 1 1 ++ beB m.ty.toNat 1) = l := ⟨_, rfl⟩; obtain ⟨n9, hn9⟩ : ∃ n, n8 + 7 = n := ⟨_, rfl⟩; have O9 := Lib.hid (own_app own9 hl9 hn9); obtain ⟨A9, c9, rfl⟩ := own_slice O9.out; have X9 := Lib.hid (Xa9.out.below bel9 (by omega)); have B9 := Lib.hid (Ba9.out.trans (bel9.mono (by omega))); have z9 := Nat.le_trans (al (rf w8) (.cells #[.int .u8 99, .int .u8 130, .int .u8 83, .int .u8 99, .int .u8 53, .int .u8 1, .int .u8 m.ty] 5)).size bel9.size; have N9 : 0 < n9 := (by omega); have M9 : n9 ≤ 243 := Nat.le_trans (Nat.le_of_eq hn9.symm) (Nat.add_le_add M8 (Nat.le_refl _)); have HL9 := Lib.hid hl9; have d9 := X9.out.cell 10; simp only [Ls.cs, List.getElem?_toArray, List.getElem?_cons_zero, List.getElem?_cons_succ] at d9; clear own9 gr9 at9 bel9 hl9 hn9)
      | fail)
    obtain ⟨r10, hr10⟩ : ∃ r, leO (54, m.server) = r := ⟨_, rfl⟩
    have rl10 : r10.length ≤ 6 := by rw [← hr10]; exact leO_len _
    have CL10 := Lib.hid (fun V : World => le_raddr V 54 m.server (by omega) (by omega) (by omega) (by omega))
    rw [hr10] at CL10
    have HR10 := Lib.hid hr10
    clear hr10
    go_wp2_with fail
    refine (CL10.out _).mono ?_
    rintro e w10a ⟨Aa10, ca10, rfl, o10, b10⟩
    have b10B : Below (w.heap.size + 1) w9 w10a := b10.mono (by omega)
    have Y10 := Lib.hid (own_nx O9.out b10)
    have Q10 := Lib.hid (Reads.of_own o10)
    have Xa10 := Lib.hid (X9.out.below b10B (by omega))
    have Ba10 := Lib.hid (B9.out.trans (b10.mono (by omega)))
    have za10 := b10.size
    clear o10 b10 b10B
    go_wp2_with (first
      | (at_builtin; refine app_any stB rfl (.tmp 62) (.tmp 65) rfl (w.heap.size + 1) _ n9 (Lib.byteCells l9) rfl Y10.out _ r10.length ca10 (Lib.byteCells (r10)) rfl Q10.out (one_u8 _) (by omega) (by omega) (by first | omega | (simp; omega)) ?_; intro v10 w10 own10 gr10 at10 bel10; obtain ⟨l10, hl10⟩ : ∃ l, l9 ++ (r10) = l := ⟨_, rfl⟩; obtain ⟨n10, hn10⟩ : ∃ n, n9 + r10.length = n := ⟨_, rfl⟩; have O10 := Lib.hid (own_app own10 hl10 hn10); obtain ⟨A10, c10, rfl⟩ := own_slice O10.out; have X10 := Lib.hid (Xa10.out.below bel10 (by omega)); have B10 := Lib.hid (Ba10.out.trans (bel10.mono (by omega))); have z10 := bel10.size; have N10 : 0 < n10 := (by omega); have M10 : n10 ≤ 249 := Nat.le_trans (Nat.le_of_eq hn10.symm) (Nat.add_le_add M9 rl10); have HL10 := Lib.hid hl10; have d10 := X10.out.cell 11; simp only [Ls.cs, List.getElem?_toArray, List.getElem?_cons_zero, List.getElem?_cons_succ] at d10; clear own10 gr10 at10 bel10 hl10 hn10)
      | fail)
    obtain ⟨r11, hr11⟩ : ∃ r, leO (50, m.asked) = r := ⟨_, rfl⟩
    have rl11 : r11.length ≤ 6 := by rw [← hr11]; exact leO_len _
    have CL11 := Lib.hid (fun V : World => le_raddr V 50 m.asked (by omega) (by omega) (by omega) (by omega))
    rw [hr11] at CL11
    have HR11 := Lib.hid hr11
    clear hr11
    go_wp2_with fail
    refine (CL11.out _).mono ?_
    rintro e w11a ⟨Aa11, ca11, rfl, o11, b11⟩
    have b11B : Below (w.heap.size + 1) w10 w11a := b11.mono (by omega)
    have Y11 := Lib.hid (own_nx O10.out b11)
    have Q11 := Lib.hid (Reads.of_own o11)
    have Xa11 := Lib.hid (X10.out.below b11B (by omega))
    have Ba11 := Lib.hid (B10.out.trans (b11.mono (by omega)))
    have za11 := b11.size
    clear o11 b11 b11B
    go_wp2_with (first
      | (at_builtin; refine app_any stB rfl (.tmp 67) (.tmp 70) rfl (w.heap.size + 1) _ n10 (Lib.byteCells l10) rfl Y11.out _ r11.length ca11 (Lib.byteCells (r11)) rfl Q11.out (one_u8 _) (by omega) (by omega) (by first | omega | (simp; omega)) ?_; intro v11 w11 own11 gr11 at11 bel11; obtain ⟨l11, hl11⟩ : ∃ l, l10 ++ (r11) = l := ⟨_, rfl⟩; obtain ⟨n11, hn11⟩ : ∃ n, n10 + r11.length = n := ⟨_, rfl⟩; have O11 := Lib.hid (own_app own11 hl11 hn11); obtain ⟨A11, c11, rfl⟩ := own_slice O11.out; have X11 := Lib.hid (Xa11.out.below bel11 (by omega)); have B11 := Lib.hid (Ba11.out.trans (bel11.mono (by omega))); have z11 := bel11.size; have N11 : 0 < n11 := (by omega); have M11 : n11 ≤ 255 := Nat.le_trans (Nat.le_of_eq hn11.symm) (Nat.add_le_add M10 rl11); have HL11 := Lib.hid hl11; have d11 := X11.out.cell 12; simp only [Ls.cs, List.getElem?_toArray, List.getElem?_cons_zero, List.getElem?_cons_succ] at d11; clear own11 gr11 at11 bel11 hl11 hn11)
      | fail)
    obtain ⟨r12, hr12⟩ : ∃ r, leO (51, m.time) = r := ⟨_, rfl⟩
    have rl12 : r12.length ≤ 6 := by rw [← hr12]; exact leO_len _
    have CL12 := Lib.hid (fun V : World => le_raddr V 51 m.time (by omega) (by omega) (by omega) (by omega))
    rw [hr12] at CL12
    have HR12 := Lib.hid hr12
    clear hr12
    go_wp2_with fail
    refine (CL12.out _).mono ?_
    rintro e w12a ⟨Aa12, ca12, rfl, o12, b12⟩
    have b12B : Below (w.heap.size + 1) w11 w12a := b12.mono (by omega)
    have Y12 := Lib.hid (own_nx O11.out b12)
    have Q12 := Lib.hid (Reads.of_own o12)
    have Xa12 := Lib.hid (X11.out.below b12B (by omega))
    have Ba12 := Lib.hid (B11.out.trans (b12.mono (by omega)))
    have za12 := b12.size
    clear o12 b12 b12B
    go_wp2_with (first
      | (at_builtin; refine app_any stB rfl (.tmp 72) (.tmp 76) rfl (w.heap.size + 1) _ n11 (Lib.byteCells l11) rfl Y12.out _ r12.length ca12 (Lib.byteCells (r12)) rfl Q12.out (one_u8 _) (by omega) (by omega) (by first | omega | (simp; omega)) ?_; intro v12 w12 own12 gr12 at12 bel12; obtain ⟨l12, hl12⟩ : ∃ l, l11 ++ (r12) = l := ⟨_, rfl⟩; obtain ⟨n12, hn12⟩ : ∃ n, n11 + r12.length = n := ⟨_, rfl⟩; have O12 := Lib.hid (own_app own12 hl12 hn12); obtain ⟨A12, c12, rfl⟩ := own_slice O12.out; have X12 := Lib.hid (Xa12.out.below bel12 (by omega)); have B12 := Lib.hid (Ba12.out.trans (bel12.mono (by omega))); have z12 := bel12.size; have N12 : 0 < n12 := (by omega); have M12 : n12 ≤ 261 := Nat.le_trans (Nat.le_of_eq hn12.symm) (Nat.add_le_add M11 rl12); have HL12 := Lib.hid hl12; have d12 := X12.out.cell 13; simp only [Ls.cs, List.getElem?_toArray, List.getElem?_cons_zero, List.getElem?_cons_succ] at d12; clear own12 gr12 at12 bel12 hl12 hn12)
      | fail)
    obtain ⟨r13, hr13⟩ : ∃ r, leO (1, m.mask) = r := ⟨_, rfl⟩
    have rl13 : r13.length ≤ 6 := by rw [← hr13]; exact leO_len _
    have CL13 := Lib.hid (fun V : World => le_raddr V 1 m.mask (by omega) (by omega) (by omega) (by omega))
    rw [hr13] at CL13
    have HR13 := Lib.hid hr13
    clear hr13
    go_wp2_with fail
    refine (CL13.out _).mono ?_
    rintro e w13a ⟨Aa13, ca13, rfl, o13, b13⟩
    have b13B : Below (w.heap.size + 1) w12 w13a := b13.mono (by omega)
    have Y13 := Lib.hid (own_nx O12.out b13)
    have Q13 := Lib.hid (Reads.of_own o13)
    have Xa13 := Lib.hid (X12.out.below b13B (by omega))
    have Ba13 := Lib.hid (B12.out.trans (b13.mono (by omega)))
    have za13 := b13.size
    clear o13 b13 b13B
    go_wp2_with (first
      | (at_builtin; refine app_any stB rfl (.tmp 78) (.tmp 81) rfl (w.heap.size + 1) _ n12 (Lib.byteCells l12) rfl Y13.out _ r13.length ca13 (Lib.byteCells (r13)) rfl Q13.out (one_u8 _) (by omega) (by omega) (by first | omega | (simp; omega)) ?_; intro v13 w13 own13 gr13 at13 bel13; obtain ⟨l13, hl13⟩ : ∃ l, l12 ++ (r13) = l := ⟨_, rfl⟩; obtain ⟨n13, hn13⟩ : ∃ n, n12 + r13.length = n := ⟨_, rfl⟩; have O13 := Lib.hid (own_app own13 hl13 hn13); obtain ⟨A13, c13, rfl⟩ := own_slice O13.out; have X13 := Lib.hid (Xa13.out.below bel13 (by omega)); have B13 := Lib.hid (Ba13.out.trans (bel13.mono (by omega))); have z13 := bel13.size; have N13 : 0 < n13 := (by omega); have M13 : n13 ≤ 267 := Nat.le_trans (Nat.le_of_eq hn13.symm) (Nat.add_le_add M12 rl13); have HL13 := Lib.hid hl13; have d13 := X13.out.cell 14; simp only [Ls.cs, List.getElem?_toArray, List.getElem?_cons_zero, List.getElem?_cons_succ] at d13; clear own13 gr13 at13 bel13 hl13 hn13)
      | fail)
    obtain ⟨r14, hr14⟩ : ∃ r, leO (3, m.router) = r := ⟨_, rfl⟩
    have rl14 : r14.length ≤ 6 := by rw [← hr14]; exact leO_len _
    have CL14 := Lib.hid (fun V : World => le_raddr V 3 m.router (by omega) (by omega) (by omega) (by omega))
    rw [hr14] at CL14
    have HR14 := Lib.hid hr14
    clear hr14
    go_wp2_with fail
    refine (CL14.out _).mono ?_
    rintro e w14a ⟨Aa14, ca14, rfl, o14, b14⟩
    have b14B : Below (w.heap.size + 1) w13 w14a := b14.mono (by omega)
    have Y14 := Lib.hid (own_nx O13.out b14)
    have Q14 := Lib.hid (Reads.of_own o14)
    have Xa14 := Lib.hid (X13.out.below b14B (by omega))
    have Ba14 := Lib.hid (B13.out.trans (b14.mono (by omega)))
    have za14 := b14.size
    clear o14 b14 b14B
    go_wp2_with (first
      | (at_builtin; refine app_any stB rfl (.tmp 83) (.tmp 86) rfl (w.heap.size + 1) _ n13 (Lib.byteCells l13) rfl Y14.out _ r14.length ca14 (Lib.byteCells (r14)) rfl Q14.out (one_u8 _) (by omega) (by omega) (by first | omega | (simp; omega)) ?_; intro v14 w14 own14 gr14 at14 bel14; obtain ⟨l14, hl14⟩ : ∃ l, l13 ++ (r14) = l := ⟨_, rfl⟩; obtain ⟨n14, hn14⟩ : ∃ n, n13 + r14.length = n := ⟨_, rfl⟩; have O14 := Lib.hid (own_app own14 hl14 hn14); obtain ⟨A14, c14, rfl⟩ := own_slice O14.out; have X14 := Lib.hid (Xa14.out.below bel14 (by omega)); have B14 := Lib.hid (Ba14.out.trans (bel14.mono (by omega))); have z14 := bel14.size; have N14 : 0 < n14 := (by omega); have M14 : n14 ≤ 273 := Nat.le_trans (Nat.le_of_eq hn14.symm) (Nat.add_le_add M13 rl14); have HL14 := Lib.hid hl14; have d14 := X14.out.cell 15; simp only [Ls.cs, List.getElem?_toArray, List.getElem?_cons_zero, List.getElem?_cons_succ] at d14; clear own14 gr14 at14 bel14 hl14 hn14)
      | fail)
    obtain ⟨r15, hr15⟩ : ∃ r, leO (6, m.resolver) = r := ⟨_, rfl⟩
    have rl15 : r15.length ≤ 6 := by rw [← hr15]; exact leO_len _
    have CL15 := Lib.hid (fun V : World => le_raddr V 6 m.resolver (by omega) (by omega) (by omega) (by omega))
    rw [hr15] at CL15
    have HR15 := Lib.hid hr15
    clear hr15
    go_wp2_with fail
    refine (CL15.out _).mono ?_
    rintro e w15a ⟨Aa15, ca15, rfl, o15, b15⟩
    have b15B : Below (w.heap.size + 1) w14 w15a := b15.mono (by omega)
    have Y15 := Lib.hid (own_nx O14.out b15)
    have Q15 := Lib.hid (Reads.of_own o15)
    have Xa15 := Lib.hid (X14.out.below b15B (by omega))
    have Ba15 := Lib.hid (B14.out.trans (b15.mono (by omega)))
    have za15 := b15.size
    clear o15 b15 b15B
    go_wp2_with (first
      | (at_builtin; refine app_any stB rfl (.tmp 88) (.tmp 91) rfl (w.heap.size + 1) _ n14 (Lib.byteCells l14) rfl Y15.out _ r15.length ca15 (Lib.byteCells (r15)) rfl Q15.out (one_u8 _) (by omega) (by omega) (by first | omega | (simp; omega)) ?_; intro v15 w15 own15 gr15 at15 bel15; obtain ⟨l15, hl15⟩ : ∃ l, l14 ++ (r15) = l := ⟨_, rfl⟩; obtain ⟨n15, hn15⟩ : ∃ n, n14 + r15.length = n := ⟨_, rfl⟩; have O15 := Lib.hid (own_app own15 hl15 hn15); obtain ⟨A15, c15, rfl⟩ := own_slice O15.out; have X15 := Lib.hid (Xa15.out.below bel15 (by omega)); have B15 := Lib.hid (Ba15.out.trans (bel15.mono (by omega))); have z15 := bel15.size; have N15 : 0 < n15 := (by omega); have M15 : n15 ≤ 279 := Nat.le_trans (Nat.le_of_eq hn15.symm) (Nat.add_le_add M14 rl15); have HL15 := Lib.hid hl15; clear own15 gr15 at15 bel15 hl15 hn15)
      | (at_builtin; refine app_any stB rfl (.tmp 93) (.tmp 94) rfl (w.heap.size + 1) _ n15 (Lib.byteCells l15) rfl (own_nx O15.out (al (rf w15) _)) _ 1 1 (Lib.byteCells (beB 255 1)) rfl (HR16.out w15 _ (by simp)) (one_u8 _) (by omega) (by omega) (by first | omega | (simp; omega)) ?_; intro v16 w16 own16 gr16 at16 bel16; obtain ⟨l16, hl16⟩ : ∃ l, l15 ++ (beB 255 1) = l := ⟨_, rfl⟩; obtain ⟨n16, hn16⟩ : ∃ n, n15 + 1 = n := ⟨_, rfl⟩; have O16 := Lib.hid (own_app own16 hl16 hn16); obtain ⟨A16, c16, rfl⟩ := own_slice O16.out; have X16 := Lib.hid ((X15.out.alloc (.cells #[.int .u8 255] 5)).below bel16 (by omega)); have B16 := Lib.hid ((B15.out.alloc (by omega) (.cells #[.int .u8 255] 5)).trans (bel16.mono (by omega))); have z16 := Nat.le_trans (al (rf w15) (.cells #[.int .u8 255] 5)).size bel16.size; have N16 : 0 < n16 := (by omega); have M16 : n16 ≤ 280 := Nat.le_trans (Nat.le_of_eq hn16.symm) (Nat.add_le_add M15 (Nat.le_refl _)); have HL16 := Lib.hid hl16; clear own16 gr16 at16 bel16 hl16 hn16)
      | fail)
    have el : l16 = leB m := by
      rw [← HL16.out, ← HL15.out, ← HL14.out, ← HL13.out, ← HL12.out, ← HL11.out, ← HL10.out, ← HL9.out, ← HL8.out, ← HL7.out, ← HL6.out, ← HL5.out, ← HL4.out, ← HL3.out, ← HR15.out, ← HR14.out, ← HR13.out, ← HR12.out, ← HR11.out, ← HR10.out]
      unfold leB optsL
      simp only [List.flatMap_cons, List.flatMap_nil, List.append_nil, List.append_assoc]
    have en : n16 = (leB m).length := by
      have h := O16.out.1
      rw [byteCells_len, el] at h
      omega
    subst en
    rw [el] at O16
    have OF := Lib.hid (own_base O16.out (show w.heap.size ≤ w.heap.size + 1 by omega))
    go_ret2
    exact ⟨A16, c16, rfl, OF.out, B16.out⟩
end Go.Proofs.Ytgdlghieifadhaa
