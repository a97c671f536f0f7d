/-
  Lease: the program's Encode of a right message. Printed by gen_leb.py.
-/
import Derived.Test.YtgdlghieifadhaaLeA
import Derived.Test.YtgdlghieifadhaaByt
set_option linter.unusedVariables false
namespace Go.Proofs.Ytgdlghieifadhaa
open Go.RowKit

def Ls.val (m : Ls) : Value := .agg #[.int .i64 m.op, .int .u32 m.id, .int .u32 m.yours, .int .u8 m.cl.a, .int .u8 m.cl.b, .int .u8 m.cl.c, .int .u8 m.cl.d, .int .u8 m.cl.e, .int .u8 m.cl.f, .int .i64 m.ty, .int .u32 m.server, .int .u32 m.asked, .int .i64 m.time, .int .u32 m.mask, .int .u32 m.router, .int .u32 m.resolver]
def macB (c : M6) : List UInt8 := c.l.map fun x => UInt8.ofNat x.toNat
def optsL (m : Ls) : List (Int × Int) := [(54, m.server), (50, m.asked), (51, m.time), (1, m.mask), (3, m.router), (6, m.resolver)]
structure LsOk (m : Ls) : Prop where
  id0 : 0 ≤ m.id
  id1 : m.id ≤ 4294967295
  y0 : 0 ≤ m.yours
  y1 : m.yours ≤ 4294967295
  c : ∀ x ∈ m.cl.l, 0 ≤ x ∧ x ≤ 255
  o : ∀ p ∈ optsL m, 0 ≤ p.1 ∧ p.1 ≤ 255 ∧ (p.1 ≠ 51 → 0 ≤ p.2 ∧ p.2 ≤ 4294967295)
structure LsGood (m : Ls) : Prop where
  op : m.op = 1 ∨ m.op = 2
  ty0 : 1 ≤ m.ty
  ty1 : m.ty ≤ 7
  t0 : 0 ≤ m.time
  t1 : m.time ≤ 2147483647
def leB (m : Ls) : List UInt8 := beB m.op.toNat 1 ++ beB 1 1 ++ beB 6 1 ++ beB 0 1 ++ beB m.id.toNat 4 ++ zs 8 ++ beB m.yours.toNat 4 ++ zs 8 ++ macB m.cl ++ zs 202 ++ beB 1669485411 4 ++ beB 53 1 ++ beB 1 1 ++ beB m.ty.toNat 1 ++ (optsL m).flatMap leO ++ beB 255 1
theorem leNothC (w : World) {B : Nat} (b : Nat) (X : List Kp) (l : List UInt8) (n : Nat) (x : Int) (hx : x = n) (h : IsL w B b X l) (hn : n ≤ 1000) (hl : l.length ≤ 100000) (hBw : B ≤ w.heap.size) :
    Calls Try.prog 43 #[.int .i64 x, .pointer (some ⟨b, 0, none⟩)] w fun e w' => e = .returned (.tuple #[]) ∧ IsL w' B b X (l ++ zs n) ∧ Below B w w' := by
  subst hx
  have hmk := run_make_bytes n (by omega) n rfl w
  have HB := Lib.hid (made_bytes (Blk.new w 5 (madeCells #[.int .u8 0] n)))
  have kA := al (rf w) (.cells (madeCells #[.int .u8 0] n) 5)
  have HI := Lib.hid (h.nx kA)
  have BA : Hid (Below B w (w.alloc (.cells (madeCells #[.int .u8 0] n) 5))) := kA.mono hBw
  have hz := kA.size
  clear h kA
  go_enter Try.func43, Try.ntmps43
  go_wp2_with fail
  refine (wrawL _ _ X l (zs n) _ n n HI.out HB.out (by unfold zs; simp) (by unfold zs; simp; omega) (by omega)).mono ?_
  rintro e w1 ⟨rfl, h1, b1⟩
  have H1 := Lib.hid h1
  have B1 := Lib.hid (BA.out.trans b1)
  clear h1 b1
  go_wp2
  go_end0
  exact ⟨rfl, H1.out, B1.out⟩
theorem mac_bytes {w : World} {g : Nat} {m : Ls} (ok : LsOk m) (h : Blk w g 27 m.cs.toArray) : Bytes w (some ⟨g, 3, none⟩) (macB m.cl) := by
  refine blk_bytes h 3 _ (fun i hi => ?_)
  have hi6 : i < 6 := hi
  have e : ∀ x ∈ m.cl.l, ((UInt8.ofNat x.toNat).toNat : Int) = x := fun x hx => by
    have := ok.c x hx
    simp [UInt8.toNat_ofNat']; omega
  match i, hi6 with
  | 0, _ => exact congrArg (fun v => some (Value.int .u8 v)) (e m.cl.a (by simp [M6.l])).symm
  | 1, _ => exact congrArg (fun v => some (Value.int .u8 v)) (e m.cl.b (by simp [M6.l])).symm
  | 2, _ => exact congrArg (fun v => some (Value.int .u8 v)) (e m.cl.c (by simp [M6.l])).symm
  | 3, _ => exact congrArg (fun v => some (Value.int .u8 v)) (e m.cl.d (by simp [M6.l])).symm
  | 4, _ => exact congrArg (fun v => some (Value.int .u8 v)) (e m.cl.e (by simp [M6.l])).symm
  | 5, _ => exact congrArg (fun v => some (Value.int .u8 v)) (e m.cl.f (by simp [M6.l])).symm
theorem opts_ok {m : Ls} (ok : LsOk m) (t0 : 0 ≤ m.time) (t1 : m.time ≤ 2147483647) : ∀ p ∈ optsL m, 0 ≤ p.1 ∧ p.1 ≤ 255 ∧ 0 ≤ p.2 ∧ p.2 ≤ 4294967295 := fun p hp => by
  obtain ⟨h0, h1, h2⟩ := ok.o p hp
  by_cases h : p.1 = 51
  · have : p = (51, m.time) := by
      simp only [optsL, List.mem_cons, List.not_mem_nil, or_false] at hp
      rcases hp with rfl | rfl | rfl | rfl | rfl | rfl <;> simp_all
    rw [this]
    exact ⟨by omega, by omega, t0, by omega⟩
  · exact ⟨h0, h1, h2 h⟩
theorem cookieC (w : World) : Calls Try.prog 47 #[] w fun e w' => e = .returned (.int .u32 1669485411) ∧ w' = w := by
  go_enter Try.func47, Try.ntmps47
  go_wp2
  go_ret
  exact ⟨rfl, rfl⟩
set_option maxRecDepth 100000 in
set_option maxHeartbeats 3200000 in
theorem le_enc (w : World) (m : Ls) (ok : LsOk m) (gd : LsGood m) : Calls Try.prog 25 #[m.val] w fun e w' => ∃ A c, e = .returned (.tuple #[.slice A (leB m).length c, .int .i64 0]) ∧ w'.ownsRow w.heap.size 5 1 (.slice A (leB m).length c) (leB m).length (Lib.byteCells (leB m)) ∧ Below w.heap.size w w' := by
  obtain ⟨t0, t1⟩ := And.intro gd.t0 gd.t1
  obtain ⟨ty0, ty1⟩ := And.intro gd.ty0 gd.ty1
  have op01 : 0 ≤ m.op ∧ m.op ≤ 2 := by rcases gd.op with h | h <;> omega
  have OK := Lib.hid ok
  have b0 : Below w.heap.size w (w.alloc (.cells #[.int .i64 m.op, .int .u32 m.id, .int .u32 m.yours, .int .u8 m.cl.a, .int .u8 m.cl.b, .int .u8 m.cl.c, .int .u8 m.cl.d, .int .u8 m.cl.e, .int .u8 m.cl.f, .int .i64 m.ty, .int .u32 m.server, .int .u32 m.asked, .int .i64 m.time, .int .u32 m.mask, .int .u32 m.router, .int .u32 m.resolver] 27)) := al (rf w) _
  have X0 : Hid (Blk (w.alloc (.cells #[.int .i64 m.op, .int .u32 m.id, .int .u32 m.yours, .int .u8 m.cl.a, .int .u8 m.cl.b, .int .u8 m.cl.c, .int .u8 m.cl.d, .int .u8 m.cl.e, .int .u8 m.cl.f, .int .i64 m.ty, .int .u32 m.server, .int .u32 m.asked, .int .i64 m.time, .int .u32 m.mask, .int .u32 m.router, .int .u32 m.resolver] 27)) w.heap.size 27 m.cs.toArray) := Blk.new w 27 #[.int .i64 m.op, .int .u32 m.id, .int .u32 m.yours, .int .u8 m.cl.a, .int .u8 m.cl.b, .int .u8 m.cl.c, .int .u8 m.cl.d, .int .u8 m.cl.e, .int .u8 m.cl.f, .int .i64 m.ty, .int .u32 m.server, .int .u32 m.asked, .int .i64 m.time, .int .u32 m.mask, .int .u32 m.router, .int .u32 m.resolver]
  have hs0 : (w.alloc (.cells #[.int .i64 m.op, .int .u32 m.id, .int .u32 m.yours, .int .u8 m.cl.a, .int .u8 m.cl.b, .int .u8 m.cl.c, .int .u8 m.cl.d, .int .u8 m.cl.e, .int .u8 m.cl.f, .int .i64 m.ty, .int .u32 m.server, .int .u32 m.asked, .int .i64 m.time, .int .u32 m.mask, .int .u32 m.router, .int .u32 m.resolver] 27)).heap.size = w.heap.size + 1 := by simp
  have b1 : Below w.heap.size w ((w.alloc (.cells #[.int .i64 m.op, .int .u32 m.id, .int .u32 m.yours, .int .u8 m.cl.a, .int .u8 m.cl.b, .int .u8 m.cl.c, .int .u8 m.cl.d, .int .u8 m.cl.e, .int .u8 m.cl.f, .int .i64 m.ty, .int .u32 m.server, .int .u32 m.asked, .int .i64 m.time, .int .u32 m.mask, .int .u32 m.router, .int .u32 m.resolver] 27)).alloc (.cells #[.slice none 0 0] 68)) := al b0 _
  have I1 : Hid (IsL ((w.alloc (.cells #[.int .i64 m.op, .int .u32 m.id, .int .u32 m.yours, .int .u8 m.cl.a, .int .u8 m.cl.b, .int .u8 m.cl.c, .int .u8 m.cl.d, .int .u8 m.cl.e, .int .u8 m.cl.f, .int .i64 m.ty, .int .u32 m.server, .int .u32 m.asked, .int .i64 m.time, .int .u32 m.mask, .int .u32 m.router, .int .u32 m.resolver] 27)).alloc (.cells #[.slice none 0 0] 68)) (w.heap.size + 1) (w.heap.size + 1) [] []) := (IsW.new _ hs0.symm (Nat.le_refl _)).isL
  have X1 := Lib.hid (X0.out.alloc (.cells #[.slice none 0 0] 68))
  have B1 := Lib.hid b1
  have hs1 : ((w.alloc (.cells #[.int .i64 m.op, .int .u32 m.id, .int .u32 m.yours, .int .u8 m.cl.a, .int .u8 m.cl.b, .int .u8 m.cl.c, .int .u8 m.cl.d, .int .u8 m.cl.e, .int .u8 m.cl.f, .int .i64 m.ty, .int .u32 m.server, .int .u32 m.asked, .int .i64 m.time, .int .u32 m.mask, .int .u32 m.router, .int .u32 m.resolver] 27)).alloc (.cells #[.slice none 0 0] 68)).heap.size = w.heap.size + 2 := by simp
  have tt1 : ¬ m.ty < 1 := by omega
  have tt2 : ¬ 7 < m.ty := by omega
  have tt3 : ¬ m.time < 0 := by omega
  have tt4 : ¬ 2147483647 < m.time := by omega
  have cop : ((w.alloc (.cells #[.int .i64 m.op, .int .u32 m.id, .int .u32 m.yours, .int .u8 m.cl.a, .int .u8 m.cl.b, .int .u8 m.cl.c, .int .u8 m.cl.d, .int .u8 m.cl.e, .int .u8 m.cl.f, .int .i64 m.ty, .int .u32 m.server, .int .u32 m.asked, .int .i64 m.time, .int .u32 m.mask, .int .u32 m.router, .int .u32 m.resolver] 27)).alloc (.cells #[.slice none 0 0] 68)).cell? ⟨w.heap.size, 0, none⟩ = some (.int .i64 m.op) := X1.out.cell 0
  have cop0 : (w.alloc (.cells #[.int .i64 m.op, .int .u32 m.id, .int .u32 m.yours, .int .u8 m.cl.a, .int .u8 m.cl.b, .int .u8 m.cl.c, .int .u8 m.cl.d, .int .u8 m.cl.e, .int .u8 m.cl.f, .int .i64 m.ty, .int .u32 m.server, .int .u32 m.asked, .int .i64 m.time, .int .u32 m.mask, .int .u32 m.router, .int .u32 m.resolver] 27)).cell? ⟨w.heap.size, 0, none⟩ = some (.int .i64 m.op) := X0.out.cell 0
  have cty : (w.alloc (.cells #[.int .i64 m.op, .int .u32 m.id, .int .u32 m.yours, .int .u8 m.cl.a, .int .u8 m.cl.b, .int .u8 m.cl.c, .int .u8 m.cl.d, .int .u8 m.cl.e, .int .u8 m.cl.f, .int .i64 m.ty, .int .u32 m.server, .int .u32 m.asked, .int .i64 m.time, .int .u32 m.mask, .int .u32 m.router, .int .u32 m.resolver] 27)).cell? ⟨w.heap.size, 9, none⟩ = some (.int .i64 m.ty) := X0.out.cell 9
  have ctm : (w.alloc (.cells #[.int .i64 m.op, .int .u32 m.id, .int .u32 m.yours, .int .u8 m.cl.a, .int .u8 m.cl.b, .int .u8 m.cl.c, .int .u8 m.cl.d, .int .u8 m.cl.e, .int .u8 m.cl.f, .int .i64 m.ty, .int .u32 m.server, .int .u32 m.asked, .int .i64 m.time, .int .u32 m.mask, .int .u32 m.router, .int .u32 m.resolver] 27)).cell? ⟨w.heap.size, 12, none⟩ = some (.int .i64 m.time) := X0.out.cell 12
  unfold Ls.val
  clear b0 b1
  have hop : ((m.op != 1) = false) ∨ ((m.op != 1) = true ∧ (m.op != 2) = false) := by
    rcases gd.op with h | h
    · left; rw [h]; rfl
    · right; rw [h]; exact ⟨rfl, rfl⟩
  clear ok gd
  have hsz := X0.out.lt
  obtain ⟨w1, hw1⟩ : ∃ w1, w1 = ((w.alloc (.cells #[.int .i64 m.op, .int .u32 m.id, .int .u32 m.yours, .int .u8 m.cl.a, .int .u8 m.cl.b, .int .u8 m.cl.c, .int .u8 m.cl.d, .int .u8 m.cl.e, .int .u8 m.cl.f, .int .i64 m.ty, .int .u32 m.server, .int .u32 m.asked, .int .i64 m.time, .int .u32 m.mask, .int .u32 m.router, .int .u32 m.resolver] 27)).alloc (.cells #[.slice none 0 0] 68)) := ⟨_, rfl⟩
  have fin : Hid (∀ (q : Prop), q → q) := fun _ h => h
  rcases hop with e1 | ⟨e1, e2⟩
  all_goals
    go_enter Try.func25, Try.ntmps25
    go_wp2_with fail
    rw [← hw1] at I1 X1 B1 hs1 cop ⊢
    clear hw1 cty ctm cop0
    refine (le_byte _ _ [] _ m.op I1.out (by omega) (by omega) (by simp) (by omega)).mono ?_
    rintro e w2 ⟨rfl, h2, b2⟩
    obtain ⟨l2, hl2⟩ : ∃ l, ([] : List UInt8) ++ beB (m.op : Int).toNat 1 = l := ⟨_, rfl⟩
    have n2 : l2.length ≤ 1 := by rw [← hl2, List.length_append, beB_len]; simp
    rw [hl2] at h2
    have I2 := Lib.hid h2
    have z2 := b2.size
    have X2 := Lib.hid (X1.out.below b2 (by omega))
    have B2 := Lib.hid (B1.out.trans (b2.mono (by omega)))
    have HL2 := Lib.hid hl2
    clear h2 b2 hl2 cop
    go_wp2_with fail
    refine (le_byte _ _ [] _ 1 I2.out (by omega) (by omega) (by omega) (by omega)).mono ?_
    rintro e w3 ⟨rfl, h3, b3⟩
    obtain ⟨l3, hl3⟩ : ∃ l, l2 ++ beB (1 : Int).toNat 1 = l := ⟨_, rfl⟩
    have n3 : l3.length ≤ 2 := by rw [← hl3, List.length_append, beB_len]; omega
    rw [hl3] at h3
    have I3 := Lib.hid h3
    have z3 := b3.size
    have X3 := Lib.hid (X2.out.below b3 (by omega))
    have B3 := Lib.hid (B2.out.trans (b3.mono (by omega)))
    have HL3 := Lib.hid hl3
    clear h3 b3 hl3
    go_wp2_with fail
    refine (le_byte _ _ [] _ 6 I3.out (by omega) (by omega) (by omega) (by omega)).mono ?_
    rintro e w4 ⟨rfl, h4, b4⟩
    obtain ⟨l4, hl4⟩ : ∃ l, l3 ++ beB (6 : Int).toNat 1 = l := ⟨_, rfl⟩
    have n4 : l4.length ≤ 3 := by rw [← hl4, List.length_append, beB_len]; omega
    rw [hl4] at h4
    have I4 := Lib.hid h4
    have z4 := b4.size
    have X4 := Lib.hid (X3.out.below b4 (by omega))
    have B4 := Lib.hid (B3.out.trans (b4.mono (by omega)))
    have HL4 := Lib.hid hl4
    clear h4 b4 hl4
    go_wp2_with fail
    refine (le_byte _ _ [] _ 0 I4.out (by omega) (by omega) (by omega) (by omega)).mono ?_
    rintro e w5 ⟨rfl, h5, b5⟩
    obtain ⟨l5, hl5⟩ : ∃ l, l4 ++ beB (0 : Int).toNat 1 = l := ⟨_, rfl⟩
    have n5 : l5.length ≤ 4 := by rw [← hl5, List.length_append, beB_len]; omega
    rw [hl5] at h5
    have I5 := Lib.hid h5
    have z5 := b5.size
    have X5 := Lib.hid (X4.out.below b5 (by omega))
    have B5 := Lib.hid (B4.out.trans (b5.mono (by omega)))
    have HL5 := Lib.hid hl5
    clear h5 b5 hl5
    have c6 := X5.out.cell 1
    simp only [Ls.cs, List.getElem?_toArray, List.getElem?_cons_zero, List.getElem?_cons_succ] at c6
    go_wp2_with fail
    refine (wfourL _ _ [] _ m.id I5.out OK.out.id0 OK.out.id1 (by omega) (by omega)).mono ?_
    rintro e w6 ⟨rfl, h6, b6⟩
    obtain ⟨l6, hl6⟩ : ∃ l, l5 ++ beB (m.id : Int).toNat 4 = l := ⟨_, rfl⟩
    have n6 : l6.length ≤ 8 := by rw [← hl6, List.length_append, beB_len]; omega
    rw [hl6] at h6
    have I6 := Lib.hid h6
    have z6 := b6.size
    have X6 := Lib.hid (X5.out.below b6 (by omega))
    have B6 := Lib.hid (B5.out.trans (b6.mono (by omega)))
    have HL6 := Lib.hid hl6
    clear h6 b6 hl6 c6
    go_wp2_with fail
    refine (leNothC _ _ [] _ 8 8 rfl I6.out (by omega) (by omega) (by omega)).mono ?_
    rintro e w7 ⟨rfl, h7, b7⟩
    obtain ⟨l7, hl7⟩ : ∃ l, l6 ++ zs 8 = l := ⟨_, rfl⟩
    have n7 : l7.length ≤ 16 := by rw [← hl7, List.length_append]; unfold zs; simp; omega
    rw [hl7] at h7
    have I7 := Lib.hid h7
    have z7 := b7.size
    have X7 := Lib.hid (X6.out.below b7 (by omega))
    have B7 := Lib.hid (B6.out.trans (b7.mono (by omega)))
    have HL7 := Lib.hid hl7
    clear h7 b7 hl7
    have c8 := X7.out.cell 2
    simp only [Ls.cs, List.getElem?_toArray, List.getElem?_cons_zero, List.getElem?_cons_succ] at c8
    go_wp2_with fail
    refine (wfourL _ _ [] _ m.yours I7.out OK.out.y0 OK.out.y1 (by omega) (by omega)).mono ?_
    rintro e w8 ⟨rfl, h8, b8⟩
    obtain ⟨l8, hl8⟩ : ∃ l, l7 ++ beB (m.yours : Int).toNat 4 = l := ⟨_, rfl⟩
    have n8 : l8.length ≤ 20 := by rw [← hl8, List.length_append, beB_len]; omega
    rw [hl8] at h8
    have I8 := Lib.hid h8
    have z8 := b8.size
    have X8 := Lib.hid (X7.out.below b8 (by omega))
    have B8 := Lib.hid (B7.out.trans (b8.mono (by omega)))
    have HL8 := Lib.hid hl8
    clear h8 b8 hl8 c8
    go_wp2_with fail
    refine (leNothC _ _ [] _ 8 8 rfl I8.out (by omega) (by omega) (by omega)).mono ?_
    rintro e w9 ⟨rfl, h9, b9⟩
    obtain ⟨l9, hl9⟩ : ∃ l, l8 ++ zs 8 = l := ⟨_, rfl⟩
    have n9 : l9.length ≤ 28 := by rw [← hl9, List.length_append]; unfold zs; simp; omega
    rw [hl9] at h9
    have I9 := Lib.hid h9
    have z9 := b9.size
    have X9 := Lib.hid (X8.out.below b9 (by omega))
    have B9 := Lib.hid (B8.out.trans (b9.mono (by omega)))
    have HL9 := Lib.hid hl9
    clear h9 b9 hl9
    have c10 := X9.out.cell 3
    go_wp2_with fail
    refine (wrawL _ _ [] _ (macB m.cl) _ 6 6 I9.out (mac_bytes OK.out X9.out) rfl (by have h : (macB m.cl).length = 6 := rfl; omega) (by omega)).mono ?_
    rintro e w10 ⟨rfl, h10, b10⟩
    obtain ⟨l10, hl10⟩ : ∃ l, l9 ++ macB m.cl = l := ⟨_, rfl⟩
    have n10 : l10.length ≤ 34 := by rw [← hl10, List.length_append]; have h : (macB m.cl).length = 6 := rfl; omega
    rw [hl10] at h10
    have I10 := Lib.hid h10
    have z10 := b10.size
    have X10 := Lib.hid (X9.out.below b10 (by omega))
    have B10 := Lib.hid (B9.out.trans (b10.mono (by omega)))
    have HL10 := Lib.hid hl10
    clear h10 b10 hl10 c10
    go_wp2_with fail
    refine (leNothC _ _ [] _ 202 202 rfl I10.out (by omega) (by omega) (by omega)).mono ?_
    rintro e w11 ⟨rfl, h11, b11⟩
    obtain ⟨l11, hl11⟩ : ∃ l, l10 ++ zs 202 = l := ⟨_, rfl⟩
    have n11 : l11.length ≤ 236 := by rw [← hl11, List.length_append]; unfold zs; simp; omega
    rw [hl11] at h11
    have I11 := Lib.hid h11
    have z11 := b11.size
    have X11 := Lib.hid (X10.out.below b11 (by omega))
    have B11 := Lib.hid (B10.out.trans (b11.mono (by omega)))
    have HL11 := Lib.hid hl11
    clear h11 b11 hl11
    go_wp2_with fail
    refine (cookieC _).mono ?_
    rintro e w' ⟨rfl, ew⟩
    have ew := ew.symm
    subst ew
    go_wp2_with fail
    refine (wfourL _ _ [] _ 1669485411 I11.out (by omega) (by omega) (by omega) (by omega)).mono ?_
    rintro e w12 ⟨rfl, h12, b12⟩
    obtain ⟨l12, hl12⟩ : ∃ l, l11 ++ beB (1669485411 : Int).toNat 4 = l := ⟨_, rfl⟩
    have n12 : l12.length ≤ 240 := by rw [← hl12, List.length_append, beB_len]; omega
    rw [hl12] at h12
    have I12 := Lib.hid h12
    have z12 := b12.size
    have X12 := Lib.hid (X11.out.below b12 (by omega))
    have B12 := Lib.hid (B11.out.trans (b12.mono (by omega)))
    have HL12 := Lib.hid hl12
    clear h12 b12 hl12
    have c13_0 := X12.out.cell 9
    have c13_1 := X12.out.cell 10
    have c13_2 := X12.out.cell 11
    have c13_3 := X12.out.cell 12
    have c13_4 := X12.out.cell 13
    have c13_5 := X12.out.cell 14
    have c13_6 := X12.out.cell 15
    simp only [Ls.cs, List.getElem?_toArray, List.getElem?_cons_zero, List.getElem?_cons_succ] at c13_0 c13_1 c13_2 c13_3 c13_4 c13_5 c13_6
    have ht32 : IntKind.u32.wrap m.time = m.time := by rw [IntKind.wrap_u32]; omega
    have IO := Lib.hid (I12.out.box 75 (oCs (optsL m)).toArray)
    have BO : Hid (Below (w.heap.size + 1) w12 (w12.alloc (.cells (oCs (optsL m)).toArray 75))) := (al (rf w12) _).mono (by omega)
    have XO := Lib.hid (X12.out.alloc (.cells (oCs (optsL m)).toArray 75))
    have hzo := BO.out.size
    go_wp2_with fail
    refine (optionsC _ _ _ _ m.ty w12.heap.size (optsL m) IO.out (by omega) (by omega) (List.mem_cons_self ..) (by omega) (opts_ok OK.out t0 t1) (by omega) (by show 6 ≤ 100; omega)).mono ?_
    rintro e w13 ⟨rfl, h13, b13⟩
    have l13' : IsL w13 (w.heap.size + 1) (w.heap.size + 1) [] (l12 ++ beB 53 1 ++ beB 1 1 ++ beB m.ty.toNat 1 ++ (optsL m).flatMap leO ++ beB 255 1) := h13.drop
    obtain ⟨l13, hl13⟩ : ∃ l, l12 ++ beB 53 1 ++ beB 1 1 ++ beB m.ty.toNat 1 ++ (optsL m).flatMap leO ++ beB 255 1 = l := ⟨_, rfl⟩
    have n13 : l13.length ≤ 2000 := by rw [← hl13]; simp only [List.length_append, beB_len]; have := leOs_len (optsL m); have h6 : (optsL m).length = 6 := rfl; omega
    rw [hl13] at l13'
    have I13 := Lib.hid l13'
    have z13 := b13.size
    have B13 := Lib.hid (B12.out.trans ((BO.out.trans b13).mono (by omega)))
    have HL13 := Lib.hid hl13
    clear h13 b13 hl13 l13' IO BO XO c13_0 c13_1 c13_2 c13_3 c13_4 c13_5 c13_6
    go_wp2_with fail
    refine (wbytes _ _ l13 I13.out.isW (by omega)).mono ?_
    rintro e w99 ⟨v, rfl, own, b99⟩
    obtain ⟨A, c, rfl⟩ := own_slice own
    have el : l13 = leB m := by
      rw [← HL13.out, ← HL12.out, ← HL11.out, ← HL10.out, ← HL9.out, ← HL8.out, ← HL7.out, ← HL6.out, ← HL5.out, ← HL4.out, ← HL3.out, ← HL2.out]
      unfold leB
      simp only [List.nil_append]
      rfl
    have BF := Lib.hid (B13.out.trans (b99.mono (by omega)))
    rw [el] at own ⊢
    have OW := Lib.hid (own_base own (show w.heap.size ≤ _ by omega))
    clear own b99 el
    go_wp2
    go_ret2
    exact ⟨A, c, rfl, OW.out, BF.out⟩
set_option maxRecDepth 100000 in
set_option maxHeartbeats 1600000 in
theorem le_bad (w : World) (m : Ls) (h : ¬ LsGood m) : Calls Try.prog 25 #[m.val] w fun e w' => e = .returned (.tuple #[.slice none 0 0, .int .i64 1]) ∧ Below w.heap.size w w' := by
  have b0 := Lib.hid (show Below w.heap.size w (w.alloc (.cells #[.int .i64 m.op, .int .u32 m.id, .int .u32 m.yours, .int .u8 m.cl.a, .int .u8 m.cl.b, .int .u8 m.cl.c, .int .u8 m.cl.d, .int .u8 m.cl.e, .int .u8 m.cl.f, .int .i64 m.ty, .int .u32 m.server, .int .u32 m.asked, .int .i64 m.time, .int .u32 m.mask, .int .u32 m.router, .int .u32 m.resolver] 27)) from al (rf w) _)
  have cop0 : (w.alloc (.cells #[.int .i64 m.op, .int .u32 m.id, .int .u32 m.yours, .int .u8 m.cl.a, .int .u8 m.cl.b, .int .u8 m.cl.c, .int .u8 m.cl.d, .int .u8 m.cl.e, .int .u8 m.cl.f, .int .i64 m.ty, .int .u32 m.server, .int .u32 m.asked, .int .i64 m.time, .int .u32 m.mask, .int .u32 m.router, .int .u32 m.resolver] 27)).cell? ⟨w.heap.size, 0, none⟩ = some (.int .i64 m.op) := (Blk.new w 27 #[.int .i64 m.op, .int .u32 m.id, .int .u32 m.yours, .int .u8 m.cl.a, .int .u8 m.cl.b, .int .u8 m.cl.c, .int .u8 m.cl.d, .int .u8 m.cl.e, .int .u8 m.cl.f, .int .i64 m.ty, .int .u32 m.server, .int .u32 m.asked, .int .i64 m.time, .int .u32 m.mask, .int .u32 m.router, .int .u32 m.resolver]).cell 0
  have cty : (w.alloc (.cells #[.int .i64 m.op, .int .u32 m.id, .int .u32 m.yours, .int .u8 m.cl.a, .int .u8 m.cl.b, .int .u8 m.cl.c, .int .u8 m.cl.d, .int .u8 m.cl.e, .int .u8 m.cl.f, .int .i64 m.ty, .int .u32 m.server, .int .u32 m.asked, .int .i64 m.time, .int .u32 m.mask, .int .u32 m.router, .int .u32 m.resolver] 27)).cell? ⟨w.heap.size, 9, none⟩ = some (.int .i64 m.ty) := (Blk.new w 27 #[.int .i64 m.op, .int .u32 m.id, .int .u32 m.yours, .int .u8 m.cl.a, .int .u8 m.cl.b, .int .u8 m.cl.c, .int .u8 m.cl.d, .int .u8 m.cl.e, .int .u8 m.cl.f, .int .i64 m.ty, .int .u32 m.server, .int .u32 m.asked, .int .i64 m.time, .int .u32 m.mask, .int .u32 m.router, .int .u32 m.resolver]).cell 9
  have ctm : (w.alloc (.cells #[.int .i64 m.op, .int .u32 m.id, .int .u32 m.yours, .int .u8 m.cl.a, .int .u8 m.cl.b, .int .u8 m.cl.c, .int .u8 m.cl.d, .int .u8 m.cl.e, .int .u8 m.cl.f, .int .i64 m.ty, .int .u32 m.server, .int .u32 m.asked, .int .i64 m.time, .int .u32 m.mask, .int .u32 m.router, .int .u32 m.resolver] 27)).cell? ⟨w.heap.size, 12, none⟩ = some (.int .i64 m.time) := (Blk.new w 27 #[.int .i64 m.op, .int .u32 m.id, .int .u32 m.yours, .int .u8 m.cl.a, .int .u8 m.cl.b, .int .u8 m.cl.c, .int .u8 m.cl.d, .int .u8 m.cl.e, .int .u8 m.cl.f, .int .i64 m.ty, .int .u32 m.server, .int .u32 m.asked, .int .i64 m.time, .int .u32 m.mask, .int .u32 m.router, .int .u32 m.resolver]).cell 12
  have cases9 : ((m.op != 1) = true ∧ (m.op != 2) = true) ∨ (((m.op != 1) = false ∨ ((m.op != 1) = true ∧ (m.op != 2) = false)) ∧ (m.ty < 1 ∨ (¬ m.ty < 1 ∧ 7 < m.ty) ∨ (¬ m.ty < 1 ∧ ¬ 7 < m.ty ∧ m.time < 0) ∨ (¬ m.ty < 1 ∧ ¬ 7 < m.ty ∧ ¬ m.time < 0 ∧ 2147483647 < m.time))) := by
    by_cases o1 : m.op = 1
    · right
      refine ⟨.inl (by rw [o1]; rfl), ?_⟩
      by_cases a : m.ty < 1
      · exact .inl a
      by_cases b : 7 < m.ty
      · exact .inr (.inl ⟨a, b⟩)
      by_cases c : m.time < 0
      · exact .inr (.inr (.inl ⟨a, b, c⟩))
      by_cases d : 2147483647 < m.time
      · exact .inr (.inr (.inr ⟨a, b, c, d⟩))
      exact absurd ⟨.inl o1, by omega, by omega, by omega, by omega⟩ h
    · by_cases o2 : m.op = 2
      · right
        refine ⟨.inr ⟨by rw [o2]; rfl, by rw [o2]; rfl⟩, ?_⟩
        by_cases a : m.ty < 1
        · exact .inl a
        by_cases b : 7 < m.ty
        · exact .inr (.inl ⟨a, b⟩)
        by_cases c : m.time < 0
        · exact .inr (.inr (.inl ⟨a, b, c⟩))
        by_cases d : 2147483647 < m.time
        · exact .inr (.inr (.inr ⟨a, b, c, d⟩))
        exact absurd ⟨.inr o2, by omega, by omega, by omega, by omega⟩ h
      · exact .inl ⟨by simpa using o1, by simpa using o2⟩
  unfold Ls.val
  clear h
  rcases cases9 with ⟨e1, e2⟩ | ⟨e1 | ⟨e1, e2⟩, t1 | ⟨t1, t2⟩ | ⟨t1, t2, t3⟩ | ⟨t1, t2, t3, t4⟩⟩
  all_goals
    go_enter Try.func25, Try.ntmps25
    go_wp2
    go_ret2
    exact ⟨rfl, b0.out⟩
end Go.Proofs.Ytgdlghieifadhaa
