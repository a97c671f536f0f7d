/-
  Any message of a lease is its bytes, or refused; and these are read as it.
  No conditions.
-/
import Derived.Test.YtgdlghieifadhaaLeF
import Derived.Test.YtgdlghieifadhaaHelp23
import Derived.Test.YtgdlghieifadhaaLs7
import Derived.Test.YtgdlghieifadhaaLsO
import Derived.Test.YtgdlghieifadhaaLrE
import Derived.Test.YtgdlghieifadhaaOpn
set_option linter.unusedVariables false
namespace Go.Proofs.Ytgdlghieifadhaa
open Go.ChangeShapes Go.WideShapes Go.ChangeAt Go.RowKit

set_option maxRecDepth 100000 in
set_option maxHeartbeats 1600000 in
theorem le_rbad (w : World) (m : Ls) (h : ¬ LsGood m) : Calls Try.prog 26 #[m.val] w fun e w' => e = .returned (.tuple #[.slice none 0 0, .int .i64 1]) ∧ Below w.heap.size w w' := by
  have b0 := Lib.hid (show Below w.heap.size w (w.alloc (.cells #[.int .i64 m.op, .int .u32 m.id, .int .u32 m.yours, .int .u8 m.cl.a, .int .u8 m.cl.b, .int .u8 m.cl.c, .int .u8 m.cl.d, .int .u8 m.cl.e, .int .u8 m.cl.f, .int .i64 m.ty, .int .u32 m.server, .int .u32 m.asked, .int .i64 m.time, .int .u32 m.mask, .int .u32 m.router, .int .u32 m.resolver] 27)) from al (rf w) _)
  have cases9 : m.op < 1 ∨ (¬ m.op < 1 ∧ 2 < m.op) ∨ (¬ m.op < 1 ∧ ¬ 2 < m.op ∧ m.ty < 1) ∨ (¬ m.op < 1 ∧ ¬ 2 < m.op ∧ ¬ m.ty < 1 ∧ 7 < m.ty) ∨ (¬ m.op < 1 ∧ ¬ 2 < m.op ∧ ¬ m.ty < 1 ∧ ¬ 7 < m.ty ∧ m.time < 0) ∨ (¬ m.op < 1 ∧ ¬ 2 < m.op ∧ ¬ m.ty < 1 ∧ ¬ 7 < m.ty ∧ ¬ m.time < 0 ∧ 2147483647 < m.time) := by
    by_cases g : (m.op = 1 ∨ m.op = 2) ∧ 1 ≤ m.ty ∧ m.ty ≤ 7 ∧ 0 ≤ m.time ∧ m.time ≤ 2147483647
    · exact absurd ⟨g.1, g.2.1, g.2.2.1, g.2.2.2.1, g.2.2.2.2⟩ h
    · omega
  unfold Ls.val
  clear h
  rcases cases9 with c1 | ⟨c1, c2⟩ | ⟨c1, c2, c3⟩ | ⟨c1, c2, c3, c4⟩ | ⟨c1, c2, c3, c4, c5⟩ | ⟨c1, c2, c3, c4, c5, c6⟩
  all_goals
    go_enter Try.func26, Try.ntmps26
    go_wp2
    go_ret2
    exact ⟨rfl, b0.out⟩
def leKs : List Kd := [.int .i64, .int .u32, .int .u32, .int .u8, .int .u8, .int .u8, .int .u8, .int .u8, .int .u8, .int .i64, .int .u32, .int .u32, .int .i64, .int .u32, .int .u32, .int .u32]
theorem open_lease_ok {H : Type} {enc : TypeId × Value → H} {w : World} {base b0 : Nat} {r : Reach} {sp : Nat → Bool} {held : Bool} {v : Value} {d : DataW H} {p : List MemPlace}
    (hv : Value.okWide Try.prog w r b0 27 v) (h : DataW.Trod enc Try.prog w base sp held 27 v d p) : ∃ m : Ls, v = .agg m.cs.toArray ∧ LsOk m := by
  obtain ⟨m, rfl⟩ := open_lease hv h
  obtain ⟨fuel, hf⟩ := h
  have hl := leaves_of (F := 8) (N := 16) (ks := leKs) hf (by kernel_rfl)
  have e : (Value.agg m.cs.toArray).cells.toList = m.cs := rfl
  rw [e] at hl
  have u32 : ∀ (i : Nat) (a : Int), leKs[i]? = some (Kd.int .u32) → m.cs[i]? = some (.int .u32 a) → 0 ≤ a ∧ a ≤ 4294967295 := fun i a hk hc => by
    obtain ⟨v, h1, a', h2, h3⟩ := hl i _ hk
    rw [hc] at h1
    injection h1 with h1
    rw [h2] at h1
    injection h1 with _ h1
    subst h1
    constructor <;> (simp [Lit.wf, IntKind.min, IntKind.max, IntKind.signed, IntKind.bits] at h3; omega)
  have u8 : ∀ (i : Nat) (a : Int), leKs[i]? = some (Kd.int .u8) → m.cs[i]? = some (.int .u8 a) → 0 ≤ a ∧ a ≤ 255 := fun i a hk hc => by
    obtain ⟨v, h1, a', h2, h3⟩ := hl i _ hk
    rw [hc] at h1
    injection h1 with h1
    rw [h2] at h1
    injection h1 with _ h1
    subst h1
    constructor <;> (simp [Lit.wf, IntKind.min, IntKind.max, IntKind.signed, IntKind.bits] at h3; omega)
  refine ⟨m, rfl, (u32 1 _ rfl rfl).1, (u32 1 _ rfl rfl).2, (u32 2 _ rfl rfl).1, (u32 2 _ rfl rfl).2, fun x hx => ?_, fun p hp => ?_⟩
  · simp only [M6.l, List.mem_cons, List.not_mem_nil, or_false] at hx
    rcases hx with rfl | rfl | rfl | rfl | rfl | rfl
    · exact u8 3 _ rfl rfl
    · exact u8 4 _ rfl rfl
    · exact u8 5 _ rfl rfl
    · exact u8 6 _ rfl rfl
    · exact u8 7 _ rfl rfl
    · exact u8 8 _ rfl rfl
  · simp only [optsL, List.mem_cons, List.not_mem_nil, or_false] at hp
    rcases hp with rfl | rfl | rfl | rfl | rfl | rfl
    · exact ⟨by omega, by omega, fun _ => u32 10 _ rfl rfl⟩
    · exact ⟨by omega, by omega, fun _ => u32 11 _ rfl rfl⟩
    · exact ⟨by omega, by omega, fun h => absurd rfl h⟩
    · exact ⟨by omega, by omega, fun _ => u32 13 _ rfl rfl⟩
    · exact ⟨by omega, by omega, fun _ => u32 14 _ rfl rfl⟩
    · exact ⟨by omega, by omega, fun _ => u32 15 _ rfl rfl⟩
theorem own_b {w : World} {base m : Nat} {A : Option Addr} {c : Nat} {l : List UInt8} (h : w.ownsRow base 5 1 (.slice A m c) m (Lib.byteCells l)) (hm : m = l.length) : Bytes w A l := by
  subst hm
  exact Bytes.own h
set_option maxRecDepth 100000 in
set_option maxHeartbeats 1600000 in
theorem leaseEncodes_bad (m : Ls) (w : World) (gd : ¬ LsGood m) :
    Calls Try.prog 9 #[.agg m.cs.toArray] w fun e w' => e = .returned (.bool true) ∧ Below w.heap.size w w' := by
  have HB := Lib.hid (Blk.new w 27 m.cs.toArray)
  have B0 := Lib.hid (al (rf w) (.cells m.cs.toArray 27))
  have GD := Lib.hid gd
  clear gd
  go_enter Try.func9, Try.ntmps9
  go_wp2_with (first
    | (with_reducible refine wpList_load_blk rfl 27 1 rfl w.heap.size 0 16 (by kernel_rfl) 27 _ m.cs HB.out (by kernel_rfl) _ Try.underlying27 (by kernel_rfl) (by kernel_rfl) ?_)
    | fail)
  refine (le_bad _ m GD.out).mono ?_
  rintro e w1 ⟨rfl, b1⟩
  have HB1 := Lib.hid (HB.out.nx b1)
  have B1 := Lib.hid (nx B0.out b1)
  clear b1 HB B0
  go_wp2_with (first
    | (with_reducible refine wpList_load_blk rfl 27 1 rfl w.heap.size 0 16 (by kernel_rfl) 27 _ m.cs HB1.out (by kernel_rfl) _ Try.underlying27 (by kernel_rfl) (by kernel_rfl) ?_)
    | fail)
  refine (le_rbad _ m GD.out).mono ?_
  rintro e w2 ⟨rfl, b2⟩
  have B2 := Lib.hid (nx B1.out b2)
  clear b2 HB1 B1
  go_wp2_with fail
  refine (same_ _ none none [] [] 0 0 0 0 (Bytes.nil _ _) (Bytes.nil _ _) rfl rfl (by simp) (by simp)).mono ?_
  rintro e w3 ⟨rfl, b3⟩
  have B3 := Lib.hid (nx B2.out b3)
  have eq0 : (([] : List UInt8) == []) = true := rfl
  clear b3 B2
  go_wp2_with fail
  refine (known _).mono ?_
  rintro e w4 ⟨rfl, b4⟩
  have B4 := Lib.hid (nx B3.out b4)
  clear b4 B3
  go_wp2
  go_ret
  exact ⟨rfl, B4.out⟩
set_option maxRecDepth 100000 in
set_option maxHeartbeats 1600000 in
theorem leaseEncodes_ok (m : Ls) (w : World) (ok : LsOk m) (gd : LsGood m) :
    Calls Try.prog 9 #[.agg m.cs.toArray] w fun e w' => e = .returned (.bool true) ∧ Below w.heap.size w w' := by
  have HB := Lib.hid (Blk.new w 27 m.cs.toArray)
  have B0 := Lib.hid (al (rf w) (.cells m.cs.toArray 27))
  have GD := Lib.hid gd
  have OK := Lib.hid ok
  have hl := leB_len m
  have HE := Lib.hid (fun V => le_enc V m OK.out GD.out)
  have HRE := Lib.hid (fun V => le_renc V m OK.out GD.out)
  have HD := Lib.hid (fun V A c h => le_dec V m A c OK.out GD.out h)
  have HQ := Lib.hid (eql_self m)
  generalize leB m = L at hl HE HRE HD
  obtain ⟨hl0, hl1⟩ := hl
  obtain ⟨n, hn⟩ : ∃ n, L.length = n := ⟨_, rfl⟩
  rw [hn] at HE HRE HD hl0 hl1
  have HN := Lib.hid hn
  clear gd ok hn
  go_enter Try.func9, Try.ntmps9
  go_wp2_with (first
    | (with_reducible refine wpList_load_blk rfl 27 1 rfl w.heap.size 0 16 (by kernel_rfl) 27 _ m.cs HB.out (by kernel_rfl) _ Try.underlying27 (by kernel_rfl) (by kernel_rfl) ?_)
    | fail)
  refine (HE.out _).mono ?_
  rintro e w1 ⟨A1, c1, rfl, o1, b1⟩
  have HB1 := Lib.hid (HB.out.nx b1)
  have B1 := Lib.hid (nx B0.out b1)
  have O1 := Lib.hid o1
  clear b1 HB B0 o1 HE
  go_wp2_with (first
    | (with_reducible refine wpList_load_blk rfl 27 1 rfl w.heap.size 0 16 (by kernel_rfl) 27 _ m.cs HB1.out (by kernel_rfl) _ Try.underlying27 (by kernel_rfl) (by kernel_rfl) ?_)
    | fail)
  refine (HRE.out _).mono ?_
  rintro e w2 ⟨A2, c2, rfl, o2, b2⟩
  have HB2 := Lib.hid (HB1.out.nx b2)
  have B2 := Lib.hid (nx B1.out b2)
  have Y1 := Lib.hid ((own_b O1.out HN.out.symm).nx b2)
  have Y2 := Lib.hid (own_b o2 HN.out.symm)
  clear b2 HB1 B1 O1 o2 HRE
  go_wp2_with fail
  refine (same_ _ A1 A2 L L n n c1 c2 Y1.out Y2.out HN.out.symm HN.out.symm (by rw [HN.out]; omega) (by rw [HN.out]; omega)).mono ?_
  rintro e w3 ⟨rfl, b3⟩
  have B3 := Lib.hid (nx B2.out b3)
  have Y3 := Lib.hid (Y1.out.nx b3)
  have HB3 := Lib.hid (HB2.out.nx b3)
  have eq0 : (L == L) = true := beq_self_eq_true L
  clear b3 B2 Y1 Y2 HB2
  go_wp2_with fail
  refine (HD.out _ A1 c1 Y3.out).mono ?_
  rintro e w4 ⟨rfl, b4⟩
  have B4 := Lib.hid (nx B3.out b4)
  have HB4 := Lib.hid (HB3.out.nx b4)
  have HN4 : Hid (Blk (w4.alloc (.cells #[.int .i64 0, .int .u32 0, .int .u32 0, .int .u8 0, .int .u8 0, .int .u8 0, .int .u8 0, .int .u8 0, .int .u8 0, .int .i64 0, .int .u32 0, .int .u32 0, .int .i64 0, .int .u32 0, .int .u32 0, .int .u32 0] 27)) w4.heap.size 27 zeroL.cs.toArray) := Blk.new w4 _ _
  have HB5 := Lib.hid (HB4.out.nx (al (rf w4) (.cells #[.int .i64 0, .int .u32 0, .int .u32 0, .int .u8 0, .int .u8 0, .int .u8 0, .int .u8 0, .int .u8 0, .int .u8 0, .int .i64 0, .int .u32 0, .int .u32 0, .int .i64 0, .int .u32 0, .int .u32 0, .int .u32 0] 27)))
  have B5 := Lib.hid (nx B4.out (al (rf w4) (.cells #[.int .i64 0, .int .u32 0, .int .u32 0, .int .u8 0, .int .u8 0, .int .u8 0, .int .u8 0, .int .u8 0, .int .u8 0, .int .i64 0, .int .u32 0, .int .u32 0, .int .i64 0, .int .u32 0, .int .u32 0, .int .u32 0] 27)))
  have hne : w.heap.size < w4.heap.size := HB4.out.lt
  have hsz5 := B5.out.size
  have hq := HQ.out
  clear b4 B3 Y3 HB3 HD B4 HB4
  go_wp2_with (first
    | ((with_reducible refine wpList_store_blk rfl 27 7 34 rfl w4.heap.size 0 m.cs (by kernel_rfl) (by kernel_rfl) 27 zeroL.cs HN4.out (by rw [ls_len, ls_len]; decide) (by kernel_rfl) m.one ?_); intro w5 hB5 g5; (have hB6 : Blk w5 w4.heap.size 27 m.cs.toArray := by (rw [show splice zeroL.cs 0 m.cs = m.cs by kernel_rfl] at hB5; exact hB5)); have HB6 := Lib.hid hB6; have HB7 := Lib.hid (HB5.out.only g5 (Nat.ne_of_lt hne)); have B7 := Lib.hid (B5.out.trans (below_only g5 (Nat.le_of_lt hne) hsz5)))
    | (with_reducible refine wpList_load_blkG (by kernel_rfl) 27 7 rfl w4.heap.size 0 16 (by kernel_rfl) 27 _ m.cs HB6.out (by kernel_rfl) _ Try.underlying27 (by kernel_rfl) (by kernel_rfl) ?_)
    | (with_reducible refine wpList_load_blkG (by kernel_rfl) 27 1 rfl w.heap.size 0 16 (by kernel_rfl) 27 _ m.cs HB7.out (by kernel_rfl) _ Try.underlying27 (by kernel_rfl) (by kernel_rfl) ?_)
    | fail)
  refine (known _).mono ?_
  rintro e w6 ⟨rfl, b6⟩
  have B8 := Lib.hid (nx B7.out b6)
  clear b6
  go_wp2
  go_ret
  exact ⟨rfl, B8.out⟩
theorem leaseEncodes_walk (m : Ls) (w : World) (ok : LsOk m) :
    Calls Try.prog 9 #[.agg m.cs.toArray] w fun e w' => e = .returned (.bool true) ∧ Below w.heap.size w w' := by
  by_cases gd : LsGood m
  · exact leaseEncodes_ok m w ok gd
  · exact leaseEncodes_bad m w gd
set_option maxRecDepth 100000 in
theorem leaseEncodes_lifted (os : Os) (started : os.Started) (H : Type) (enc : TypeId × Value → H) :
    ReturnsInHanded {} Try.checked os 9 .any (Rows.leaseEncodesSpec.pre6 enc Try.prog Try.f9 Rows.leaseEncodesRow.domain false) (Rows.leaseEncodesSpec.post enc Try.prog Try.f9 false true false false) :=
  law_lift started (by kernel_rfl) Try.func9
    (ChangeSpec.witness6 (enc := enc) (C := Try.checked) false ⟨#[], #[.agg #[.int .i64 0, .int .u32 0, .int .u32 0, .int .u8 0, .int .u8 0, .int .u8 0, .int .u8 0, .int .u8 0, .int .u8 0, .int .i64 0, .int .u32 0, .int .u32 0, .int .i64 0, .int .u32 0, .int .u32 0, .int .u32 0]], []⟩ 8 (by kernel_rfl) (by kernel_rfl) (by kernel_rfl) (by kernel_rfl))
    rfl rfl Try.underlying4 (by kernel_rfl) (fun ds h => match ds, h with | [_], _ => rfl)
    (fun W base args ds p hval hA hsz => by
      rw [Try.params9] at hA hval
      have hsz' := hsz
      rw [Try.params9] at hsz'
      obtain ⟨v0, d0, rfl, rfl, h0⟩ := trodAll_one hA
      obtain ⟨m, rfl, ok⟩ := open_lease_ok (hval 0 27 v0 rfl rfl) h0
      exact leaseEncodes_walk m W ok)
theorem leaseEncodes_holds : Rows.LeaseEncodesSaid :=
  OpenClaim.holds_of_wide 9 Try.f9 rfl rfl rfl rfl rfl rfl rfl ⟨rfl, rfl, rfl, rfl, rfl⟩ rfl rfl rfl rfl rfl (by kernel_rfl) Try.func9 (by kernel_rfl)
    (of_decide_eq_true (by kernel_rfl)) (by unfold Func.isWrapper; rw [if_neg (of_decide_eq_false (by kernel_rfl))]; exact ⟨rfl, rfl⟩)
    (fun os started H enc _ => leaseEncodes_lifted os started H enc)
end Go.Proofs.Ytgdlghieifadhaa
