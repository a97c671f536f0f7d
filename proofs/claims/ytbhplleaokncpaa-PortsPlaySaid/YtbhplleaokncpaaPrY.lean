/-
  Ports: one step of a script, in both.
-/
import Derived.Test.YtbhplleaokncpaaPrX
set_option linter.unusedVariables false
namespace Go.Proofs.Ytbhplleaokncpaa
open Go.RowKit

structure Pd (w : World) (B pb rb : Nat) (L : List Rp) : Prop where
  is : IsP w B pb (L.map toP)
  rf : IsRf w B rb L
  len : L.length ≤ 64
  lo : B ≤ w.heap.size
theorem Pd.nx {w w' : World} {B pb rb : Nat} {L : List Rp} (h : Pd w B pb rb L) (k : Below w.heap.size w w') : Pd w' B pb rb L := ⟨h.is.nx k, h.rf.nx k, h.len, Nat.le_trans h.lo k.size⟩
theorem IsP.uq {w : World} {B pb : Nat} {L : List Rp} (h : IsP w B pb (L.map toP)) : Uq L := by
  obtain ⟨_, ⟨_, h2⟩ | ⟨mb, G, D, _, h2, _⟩⟩ := h
  · have : L = [] := by simpa using h2
    subst this
    intro i j p q hp; simp at hp
  · have hA := h2.apart
    rw [List.pairwise_iff_getElem] at hA
    intro i j p q hp hq he
    have hi := (List.getElem?_eq_some_iff.1 hp)
    have hj := (List.getElem?_eq_some_iff.1 hq)
    rcases Nat.lt_trichotomy i j with h | h | h
    · refine absurd ?_ (hA i j (by simpa using hi.1) (by simpa using hj.1) h)
      rw [List.getElem_map, List.getElem_map, toP_id, toP_id, hi.2, hj.2]; exact he
    · exact h
    · refine absurd ?_ (hA j i (by simpa using hj.1) (by simpa using hi.1) h)
      rw [List.getElem_map, List.getElem_map, toP_id, toP_id, hi.2, hj.2]; exact he.symm
theorem Pd.both {w w1 w2 : World} {B pb rb : Nat} {L L' : List Rp} {S' : List Pl} (h : Pd w B pb rb L) (h1 : Went w w1 B pb S') (h2 : RfP w1 w2 B rb L') (he : L'.map toP = S') (hl : L'.length ≤ 64) : Pd w2 B pb rb L' ∧ Below B w w2 := by
  subst he
  exact ⟨⟨h2.2.2.1 _ _ h1.1, h2.1, hl, Nat.le_trans h.lo (Nat.le_trans h1.2.1.size h2.2.1.size)⟩, h1.2.1.trans h2.2.1⟩
theorem does_blk {w : World} {kind id port n a : Int} {d : Dg} {g : Nat} (h : Blk w g 49 #[.int .i64 kind, .int .i64 id, .int .i64 port, .int .i64 n, .int .u32 a, .int .u32 d.fr, .int .i64 d.frp, .int .u32 d.to_, .int .i64 d.top, d.data]) :
    w.cell? ⟨g, 1, none⟩ = some (.int .i64 id) ∧ w.cell? ⟨g, 4, none⟩ = some (.int .u32 a) ∧ w.cell? ⟨g, 2, none⟩ = some (.int .i64 port) := ⟨h.cell 1, h.cell 4, h.cell 2⟩
set_option maxRecDepth 100000 in
set_option maxHeartbeats 6400000 in
theorem doesC (B pb rb : Nat) (L : List Rp) (kind id port n a : Int) (d : Dg) (w : World) (h : Pd w B pb rb L) (hid : (Lit.int .i64 id).wf = true) :
    Calls Try.prog 19 #[.pointer (some ⟨pb, 0, none⟩), .pointer (some ⟨rb, 0, none⟩), .agg #[.int .i64 kind, .int .i64 id, .int .i64 port, .int .i64 n, .int .u32 a, .int .u32 d.fr, .int .i64 d.frp, .int .u32 d.to_, .int .i64 d.top, d.data]] w fun e w' => e = .returned (.bool true) ∧ ∃ L', Pd w' B pb rb L' ∧ Below B w w' := by
  have HID := Lib.hid hid
  have BX := Lib.hid (Blk.new w 49 #[.int .i64 kind, .int .i64 id, .int .i64 port, .int .i64 n, .int .u32 a, .int .u32 d.fr, .int .i64 d.frp, .int .u32 d.to_, .int .i64 d.top, d.data])
  have H0 : Hid (Pd (w.alloc (.cells #[.int .i64 kind, .int .i64 id, .int .i64 port, .int .i64 n, .int .u32 a, .int .u32 d.fr, .int .i64 d.frp, .int .u32 d.to_, .int .i64 d.top, d.data] 49)) B pb rb L) := h.nx (al (rf w) _)
  have B0 : Hid (Below B w (w.alloc (.cells #[.int .i64 kind, .int .i64 id, .int .i64 port, .int .i64 n, .int .u32 a, .int .u32 d.fr, .int .i64 d.frp, .int .u32 d.to_, .int .i64 d.top, d.data] 49))) := (Below.refl B w).alloc h.lo _
  have HU := Lib.hid h.is.uq
  have hlm : (L.map toP).length ≤ 64 := by rw [List.length_map]; exact h.len
  have HLM := Lib.hid hlm
  clear h hid hlm
  by_cases k1 : kind = 1
  · obtain ⟨r, S', L', e1, e2, e3, e4⟩ : ∃ r S' L', bindR (L.map toP) id a port = (r, S') ∧ bindRR L id a port = (r, L') ∧ L'.map toP = S' ∧ L'.length ≤ 64 := ⟨_, _, _, rfl, Prod.ext (bind_eq L id a port).1 rfl, (bind_eq L id a port).2, bind_len H0.out.len⟩
    have E1 := Lib.hid e1
    have E2 := Lib.hid e2
    have hr : ((r : Int) == r) = true := by simp
    clear e1 e2
    subst k1
    go_enter Try.func19, Try.ntmps19
    go_wp2
    have S0 := does_blk (BX.out.nx (rf _).drew)
    go_region_held3 (fun w' => w'.cell? ⟨w.heap.size, 1, none⟩ = some (.int .i64 id) ∧ w'.cell? ⟨w.heap.size, 4, none⟩ = some (.int .u32 a) ∧ w'.cell? ⟨w.heap.size, 2, none⟩ = some (.int .i64 port))
      (with_reducible (first | exact S0 | exact does_blk SB2 | exact does_blk SB1 | fail))
      (first
        | (go_at_call 13; refine (bindC B pb (L.map toP) id a port _ (H0.out.is.nx (rf _).drew) H0.out.lo HID.out HLM.out).mono ?_; rintro e w1 ⟨rfl, hw1⟩; rw [E1.out] at hw1 ⊢; have RF1 : IsRf w1 B rb L := (H0.out.rf.nx (rf _).drew).keeps hw1.2.2.1; have SB1 := hw1.2.2.1.blk (BX.out.nx (rf _).drew) (by simp [badP]))
        | (go_at_call 38; refine (rbindC B rb L id a port _ RF1 (Nat.le_trans H0.out.lo hw1.2.2.2) H0.out.len).mono ?_; rintro e w2 ⟨rfl, hw2⟩; rw [E2.out] at hw2 ⊢; have SB2 := hw2.2.2.2.blk SB1 (by simp [badR]))
        | fail)
    all_goals
      obtain ⟨hp, hb⟩ := Pd.both (H0.out.nx (rf _).drew) hw1 hw2 e3 e4
      go_wp2
      go_ret
      exact ⟨rfl, L', hp, B0.out.trans ((Below.refl B _).drew.trans hb)⟩

  by_cases k3 : kind = 3
  · obtain ⟨r, S', L', e1, e2, e3, e4⟩ : ∃ r S' L', conR (L.map toP) id a port = (r, S') ∧ rconR L id a port = (r, L') ∧ L'.map toP = S' ∧ L'.length ≤ 64 := ⟨_, _, _, rfl, Prod.ext (con_eq HU.out id a port).1 rfl, (con_eq HU.out id a port).2, con_len H0.out.len⟩
    have E1 := Lib.hid e1
    have E2 := Lib.hid e2
    have hr : ((r : Int) == r) = true := by simp
    clear e1 e2
    subst k3
    go_enter Try.func19, Try.ntmps19
    go_wp2
    have S0 := does_blk (BX.out.nx (rf _).drew)
    go_region_held3 (fun w' => w'.cell? ⟨w.heap.size, 1, none⟩ = some (.int .i64 id) ∧ w'.cell? ⟨w.heap.size, 4, none⟩ = some (.int .u32 a) ∧ w'.cell? ⟨w.heap.size, 2, none⟩ = some (.int .i64 port))
      (with_reducible (first | exact S0 | exact does_blk SB2 | exact does_blk SB1 | fail))
      (first
        | (go_at_call 17; refine (conC B pb (L.map toP) id a port _ (H0.out.is.nx (rf _).drew) H0.out.lo HID.out).mono ?_; rintro e w1 ⟨rfl, hw1⟩; rw [E1.out] at hw1 ⊢; have RF1 : IsRf w1 B rb L := (H0.out.rf.nx (rf _).drew).keeps hw1.2.2.1; have SB1 := hw1.2.2.1.blk (BX.out.nx (rf _).drew) (by simp [badP]))
        | (go_at_call 40; refine (rconC B rb L id a port _ RF1 (Nat.le_trans H0.out.lo hw1.2.2.2) H0.out.len).mono ?_; rintro e w2 ⟨rfl, hw2⟩; rw [E2.out] at hw2 ⊢; have SB2 := hw2.2.2.2.blk SB1 (by simp [badR]))
        | fail)
    all_goals
      obtain ⟨hp, hb⟩ := Pd.both (H0.out.nx (rf _).drew) hw1 hw2 e3 e4
      go_wp2
      go_ret
      exact ⟨rfl, L', hp, B0.out.trans ((Below.refl B _).drew.trans hb)⟩

  by_cases k4 : kind = 4
  · obtain ⟨r, S', L', e1, e2, e3, e4⟩ : ∃ r S' L', delR (L.map toP) id = (r, S') ∧ rdelR L id = (r, L') ∧ L'.map toP = S' ∧ L'.length ≤ 64 := ⟨_, _, _, rfl, Prod.ext (del_eq HU.out id).1 rfl, (del_eq HU.out id).2, del_len H0.out.len⟩
    have E1 := Lib.hid e1
    have E2 := Lib.hid e2
    have hr : ((r : Bool) == r) = true := by simp
    clear e1 e2
    subst k4
    go_enter Try.func19, Try.ntmps19
    go_wp2
    have S0 := does_blk (BX.out.nx (rf _).drew)
    go_region_held3 (fun w' => w'.cell? ⟨w.heap.size, 1, none⟩ = some (.int .i64 id) ∧ w'.cell? ⟨w.heap.size, 4, none⟩ = some (.int .u32 a) ∧ w'.cell? ⟨w.heap.size, 2, none⟩ = some (.int .i64 port))
      (with_reducible (first | exact S0 | exact does_blk SB2 | exact does_blk SB1 | fail))
      (first
        | (go_at_call 18; refine (delC B pb (L.map toP) id _ (H0.out.is.nx (rf _).drew) H0.out.lo HID.out).mono ?_; rintro e w1 ⟨rfl, hw1⟩; rw [E1.out] at hw1 ⊢; have RF1 : IsRf w1 B rb L := (H0.out.rf.nx (rf _).drew).keeps hw1.2.2.1; have SB1 := hw1.2.2.1.blk (BX.out.nx (rf _).drew) (by simp [badP]))
        | (go_at_call 41; refine (rdelC B rb L id _ RF1 (Nat.le_trans H0.out.lo hw1.2.2.2) H0.out.len).mono ?_; rintro e w2 ⟨rfl, hw2⟩; rw [E2.out] at hw2 ⊢; have SB2 := hw2.2.2.2.blk SB1 (by simp [badR]))
        | fail)
    all_goals
      obtain ⟨hp, hb⟩ := Pd.both (H0.out.nx (rf _).drew) hw1 hw2 e3 e4
      go_wp2
      go_ret
      exact ⟨rfl, L', hp, B0.out.trans ((Below.refl B _).drew.trans hb)⟩

  by_cases k2 : kind = 2
  · obtain ⟨r, S', L', e1, e2, e3, e4⟩ : ∃ r S' L', pickR (L.map toP) id a n = (r, S') ∧ rpickR L id a n = (r, L') ∧ L'.map toP = S' ∧ L'.length ≤ 64 := ⟨_, _, _, rfl, Prod.ext (pick_eq L id a n).1 rfl, (pick_eq L id a n).2, pick_len H0.out.len⟩
    have E1 := Lib.hid e1
    have E2 := Lib.hid e2
    obtain ⟨r1, r2⟩ := r
    have hr1 : ((r1 : Int) == r1) = true := by simp
    have hr2 : ((r2 : Int) == r2) = true := by simp
    clear e1 e2
    subst k2
    go_enter Try.func19, Try.ntmps19
    go_wp2_with fail
    refine (pickC B pb (L.map toP) id a n _ H0.out.is H0.out.lo HID.out HLM.out).mono ?_
    rintro e w1 ⟨rfl, hw1⟩
    rw [E1.out] at hw1 ⊢
    have RF1 : IsRf w1 B rb L := H0.out.rf.keeps hw1.2.2.1
    have SB1 := hw1.2.2.1.blk BX.out (by simp [badP])
    have x1 : w1.cell? ⟨w.heap.size, 1, none⟩ = some (.int .i64 id) := SB1.cell 1
    have x4 : w1.cell? ⟨w.heap.size, 4, none⟩ = some (.int .u32 a) := SB1.cell 4
    have x3 : w1.cell? ⟨w.heap.size, 3, none⟩ = some (.int .i64 n) := SB1.cell 3
    have HW1 := Lib.hid hw1
    clear hw1 SB1
    go_wp2_with fail
    refine (rpickC B rb L id a n _ RF1 (Nat.le_trans H0.out.lo HW1.out.2.2.2) H0.out.len).mono ?_
    rintro e w2 ⟨rfl, hw2⟩
    rw [E2.out] at hw2 ⊢
    have HW2 := Lib.hid hw2
    clear hw2 x1 x4 x3
    go_wp2
    go_ret
    obtain ⟨hp, hb⟩ := Pd.both H0.out HW1.out HW2.out e3 e4
    exact ⟨rfl, L', hp, B0.out.trans hb⟩
  · go_enter Try.func19, Try.ntmps19
    go_wp2_with fail
    refine (findC B pb (L.map toP) d _ H0.out.is).mono ?_
    rintro e w1 ⟨⟨v1, rfl, hv1⟩, b1⟩
    have H1 := Lib.hid (H0.out.nx b1)
    have SB1 := BX.out.nx b1
    have HV1 := Lib.hid hv1
    have HB1 := Lib.hid (B0.out.trans (b1.mono H0.out.lo))
    have y5 : w1.cell? ⟨w.heap.size, 5, none⟩ = some (.int .u32 d.fr) := SB1.cell 5
    have y6 : w1.cell? ⟨w.heap.size, 6, none⟩ = some (.int .i64 d.frp) := SB1.cell 6
    have y7 : w1.cell? ⟨w.heap.size, 7, none⟩ = some (.int .u32 d.to_) := SB1.cell 7
    have y8 : w1.cell? ⟨w.heap.size, 8, none⟩ = some (.int .i64 d.top) := SB1.cell 8
    have y9 : w1.cell? ⟨w.heap.size, 9, none⟩ = some d.data := SB1.cell 9
    obtain ⟨i, b, rfl⟩ : ∃ i b, v1 = .tuple #[.int .i64 i, .bool b] := by
      rcases hv1 with ⟨rfl, _⟩ | ⟨q, rfl, _⟩
      · exact ⟨_, _, rfl⟩
      · exact ⟨_, _, rfl⟩
    have hr1 : ((i : Int) == i) = true := by simp
    have hr2 : ((b : Bool) == b) = true := by simp
    clear hv1 b1 SB1
    go_wp2_with fail
    refine (rfindC B rb L d _ H1.out.rf H1.out.len).mono ?_
    rintro e w2 ⟨⟨v2, rfl, hv2⟩, b2⟩
    rw [find_eq hv2 HV1.out]
    have H2 := Lib.hid (H1.out.nx b2)
    have HB2 := Lib.hid (HB1.out.trans (b2.mono H1.out.lo))
    clear hv2 b2 y5 y6 y7 y8 y9
    go_wp2
    go_ret
    exact ⟨rfl, L, H2.out, HB2.out⟩
end Go.Proofs.Ytbhplleaokncpaa
