/-
  Names: Decode's closure that reads a row: of a question.
-/
import Derived.Test.YtpfkmmmlocmakaaDoorNmDf
import Derived.Test.YtpfkmmmlocmakaaDoorMem
set_option linter.unusedVariables false
namespace Go.Proofs.YtpfkmmmlocmakaaDoor
open Go.RowKit

theorem K2.below {a b c : World} {x y : Nat} (h : K2 a b x y) (k : Below b.heap.size b c) : K2 a c x y := h.trans (K2.of k)
theorem K2.grow {a b c : World} {x y z : Nat} (h : K2 a b x y) (k : b.grownBy c (some z)) (hz : a.heap.size ≤ z) : K2 a c x y :=
  ⟨k.os.trans h.os, k.tape.trans h.tape, k.output.trans h.output, Nat.le_trans h.size k.size, fun i hi h1 h2 => (k.block i (Nat.lt_of_lt_of_le hi h.size) (by intro e; injection e with e; omega)).trans (h.block i hi h1 h2)⟩
theorem K2.set {a b : World} {x y : Nat} (h : K2 a b x y) {p : Addr} (hp : p.block = x ∨ p.block = y ∨ a.heap.size ≤ p.block) (v : Value) : K2 a (b.setCell p v) x y :=
  ⟨h.os, h.tape, h.output, by simpa using h.size, fun i hi h1 h2 => (Below.heap_setCell b p v i (by intro e; subst e; rcases hp with e | e | e; exact h1 e; exact h2 e; omega)).trans (h.block i hi h1 h2)⟩
theorem K2.row {a b : World} {x y g : Nat} (h : K2 a b x y) (hg : a.heap.size ≤ g) (cs : Array Value) : K2 a (b.setRow g cs) x y :=
  ⟨h.os, h.tape, h.output, by simpa [World.setRow] using h.size, fun i hi h1 h2 => (setRow_other b g i cs (by omega)).trans (h.block i hi h1 h2)⟩
-- what the closure holds: the error, the bytes, the place
structure DS (w : World) (be bb ba ga oa c : Nat) (l : List UInt8) (at_ : Nat) : Prop where
  e : Blk w be 25 #[.int .i64 0]
  b : Blk w bb 34 #[.slice (some ⟨ga, oa, none⟩) l.length c]
  a : Blk w ba 3 #[.int .i64 at_]
  by_ : Bytes w (some ⟨ga, oa, none⟩) l
  ty : RowTy w (some ⟨ga, oa, none⟩)
  lc : l.length ≤ c
  ll : l.length ≤ 1000000
theorem DS.nx {w w' : World} {be bb ba ga oa c : Nat} {l : List UInt8} {at_ : Nat} (h : DS w be bb ba ga oa c l at_) (k : Below w.heap.size w w') : DS w' be bb ba ga oa c l at_ :=
  ⟨h.e.nx k, h.b.nx k, h.a.nx k, h.by_.nx k, h.ty.nx k, h.lc, h.ll⟩
theorem DS.lt {w : World} {be bb ba ga oa c : Nat} {l : List UInt8} {at_ : Nat} (h : DS w be bb ba ga oa c l at_) : ga < w.heap.size := h.ty.lt _ rfl
-- a change of one block that is none of these
theorem DS.only {w w' : World} {be bb ba ga oa c z : Nat} {l : List UInt8} {at_ : Nat} (h : DS w be bb ba ga oa c l at_) (k : w.grownBy w' (some z)) (h1 : z ≠ be) (h2 : z ≠ bb) (h3 : z ≠ ba) (h4 : z ≠ ga) : DS w' be bb ba ga oa c l at_ :=
  ⟨h.e.only k (Ne.symm h1), h.b.only k (Ne.symm h2), h.a.only k (Ne.symm h3), bytes_only h.by_ k (fun ad e => by injection e with e; subst e; exact Ne.symm h4), fun ad e => by
    injection e with e; subst e
    obtain ⟨cur, fz, hh⟩ := h.ty _ rfl
    exact ⟨cur, fz, (k.block ga h.lt (by intro e; injection e with e; exact h4 e.symm)).trans hh⟩, h.lc, h.ll⟩
theorem ne_ty {w : World} {ga oa g : Nat} {t : TypeId} {cs : Array Value} (h : RowTy w (some ⟨ga, oa, none⟩)) (hg : Blk w g t cs) (ht : t ≠ 5) : g ≠ ga := fun e => h.ne hg ht _ rfl e.symm
theorem only_set (w : World) (g i : Nat) (v : Value) : w.grownBy (w.setCell ⟨g, i, none⟩ v) (some g) :=
  only_setCell (p := ⟨g, i, none⟩) (World.grownBy.refl _ _) (.inl rfl) v
theorem DS.setE {w : World} {be bb ba ga oa c : Nat} {l : List UInt8} {at_ : Nat} (h : DS w be bb ba ga oa c l at_) : DS (w.setCell ⟨be, 0, none⟩ (.int .i64 0)) be bb ba ga oa c l at_ := by
  have k := only_set w be 0 (.int .i64 0)
  have h2 : bb ≠ be := h.b.ne_ h.e (by decide)
  have h3 : ba ≠ be := h.a.ne_ h.e (by decide)
  have h4 := ne_ty h.ty h.e (by decide)
  refine ⟨h.e.set_ 0 _, h.b.only k h2, h.a.only k h3, bytes_only h.by_ k (fun ad e => by injection e with e; subst e; exact Ne.symm h4), fun ad e => ?_, h.lc, h.ll⟩
  injection e with e; subst e
  obtain ⟨cur, fz, hh⟩ := h.ty _ rfl
  exact ⟨cur, fz, (k.block ga h.lt (by intro e; injection e with e; exact h4 e.symm)).trans hh⟩
theorem DS.setA {w : World} {be bb ba ga oa c : Nat} {l : List UInt8} {at_ : Nat} (h : DS w be bb ba ga oa c l at_) (x : Nat) : DS (w.setCell ⟨ba, 0, none⟩ (.int .i64 x)) be bb ba ga oa c l x := by
  have k := only_set w ba 0 (.int .i64 x)
  have h2 : bb ≠ ba := h.b.ne_ h.a (by decide)
  have h3 : be ≠ ba := h.e.ne_ h.a (by decide)
  have h4 := ne_ty h.ty h.a (by decide)
  refine ⟨h.e.only k h3, h.b.only k h2, h.a.set_ 0 _, bytes_only h.by_ k (fun ad e => by injection e with e; subst e; exact Ne.symm h4), fun ad e => ?_, h.lc, h.ll⟩
  injection e with e; subst e
  obtain ⟨cur, fz, hh⟩ := h.ty _ rfl
  exact ⟨cur, fz, (k.block ga h.lt (by intro e; injection e with e; exact h4 e.symm)).trans hh⟩
theorem IsR.oth {w w' : World} {b g : Nat} {l : List UInt8} {err : Int} {t : TypeId} {cs : Array Value} (h : IsR w b l err) (k : w.grownBy w' (some g)) (hg : Blk w g t cs) (ht : t ≠ 111) (ht2 : t ≠ 79) (ht3 : t ≠ 5) : IsR w' b l err := by
  obtain ⟨A, n, c, x, h1, h2, h3, h4, h5, h6, h7⟩ := h
  exact ⟨A, n, c, x, h1.grown k (by intro e; injection e with e; exact hg.ne_ h1 ht e.symm), h2.grown k (by intro e; injection e with e; exact hg.ne_ h2 ht2 e.symm), h3, h4, bytes_only h5 k (h6.ne hg ht3), h6.only k hg ht3, h7⟩
theorem cut_at {w : World} {ga oa c q n : Nat} {l : List UInt8} (h : Bytes w (some ⟨ga, oa, none⟩) l) (hn : n = l.length) (hq : q ≤ n) (hc : n ≤ c) (hne : ¬ c = q) : Bytes w (some ⟨ga, oa + q, none⟩) (l.drop q) := by
  have h1 := cut_bytes h hn hq hc
  unfold cutA at h1
  rw [if_neg hne, Option.map_some, Addr.add_mid] at h1
  exact h1
theorem only_row (w : World) (g : Nat) (cs : Array Value) : w.grownBy (w.setRow g cs) (some g) :=
  ⟨rfl, rfl, rfl, by simp [World.setRow], fun k _ hne => setRow_other w g k cs (by intro e; exact hne (by rw [e]))⟩
def RowP (w : World) (be bb ba ga oa c : Nat) (l : List UInt8) (at2 : Nat) (v : Value) (e : Ending) (w' : World) : Prop := e = .returned v ∧ DS w' be bb ba ga oa c l at2 ∧ K2 w w' be ba
set_option maxRecDepth 100000 in
set_option maxHeartbeats 3200000 in
theorem rowQ (w : World) (be bb ba ga oa c : Nat) (P S : List UInt8) (r : Rc) (hq : QOk r) (h : DS w be bb ba ga oa c (P ++ qB r ++ S) P.length) :
    Calls Tryd.prog 29 #[.bool false, .pointer (some ⟨be, 0, none⟩), .pointer (some ⟨bb, 0, none⟩), .pointer (some ⟨ba, 0, none⟩)] w (RowP w be bb ba ga oa c (P ++ qB r ++ S) (P ++ qB r).length (.agg #[.string r.nm, .int .i64 r.t, .int .i64 r.c, .int .i64 0, .slice none 0 0])) := by
  obtain ⟨nm, hnm⟩ : ∃ nm, pk (lbs r.nm.data.toList) = nm := ⟨_, rfl⟩
  have hqb : qB r = nm ++ beB r.t.toNat 2 ++ beB r.c.toNat 2 := by unfold qB hdB; rw [hnm]
  have hun : unp (P ++ qB r ++ S) P.length P.length (-1) [] = (lbs r.nm.data.toList, (((P ++ nm).length : Nat) : Int), 0) := by
    have := unp_at hq.nm P (beB r.t.toNat 2 ++ beB r.c.toNat 2 ++ S) P.length
    rw [hnm] at this
    rw [← this, hqb]
    simp only [List.append_assoc]
  have hjn : (⟨(jn (lbs r.nm.data.toList)).toArray⟩ : ByteArray) = r.nm := bytes_ext (by simpa using (isN_goodL hq.nm).2.2)
  obtain ⟨l, hl⟩ : ∃ l, P ++ qB r ++ S = l := ⟨_, rfl⟩
  rw [hl] at h hun ⊢
  have hll : l.length = P.length + nm.length + 2 + 2 + S.length := by rw [← hl, hqb]; simp [beB_len]; omega
  obtain ⟨q1, hq1⟩ : ∃ q1, (P ++ nm).length = q1 := ⟨_, rfl⟩
  obtain ⟨q2, hq2⟩ : ∃ q2, (P ++ qB r).length = q2 := ⟨_, rfl⟩
  have hq3 : q2 = q1 + 4 := by rw [← hq2, ← hq1, hqb]; simp [beB_len]; omega
  have hq4 : q2 ≤ l.length := by rw [← hq2, ← hl]; simp
  have hdr : l.drop q1 = beB r.t.toNat 2 ++ (beB r.c.toNat 2 ++ S) := by rw [← hl, hqb, ← hq1, show P ++ (nm ++ beB r.t.toNat 2 ++ beB r.c.toNat 2) ++ S = (P ++ nm) ++ (beB r.t.toNat 2 ++ (beB r.c.toNat 2 ++ S)) by simp only [List.append_assoc]]; exact List.drop_left ..
  have hdr2 : l.drop q2 = S := by rw [← hl, ← hq2]; exact List.drop_left ..
  rw [hq1] at hun
  rw [hq2]
  have HDR := Lib.hid hdr
  have HDR2 := Lib.hid hdr2
  clear hdr hdr2 hq1 hq2
  have HLL := Lib.hid hll
  have hpl : P.length ≤ l.length := by omega
  clear hll
  have HU := Lib.hid hun
  have HJ := Lib.hid hjn
  have HL := Lib.hid hl
  have HQB := Lib.hid hqb
  have DL := h.ll
  have D1 := Lib.hid (h.nx (al (rf w) (.cells #[.string ⟨#[]⟩, .int .i64 0, .int .i64 0, .int .i64 0, .slice none 0 0] 48)))
  have Z1 := Lib.hid (Blk.new w 48 #[.string ⟨#[]⟩, .int .i64 0, .int .i64 0, .int .i64 0, .slice none 0 0])
  have K1 := Lib.hid (K2.of (x := be) (y := ba) (al (rf w) (.cells #[.string ⟨#[]⟩, .int .i64 0, .int .i64 0, .int .i64 0, .slice none 0 0] 48)))
  have hlc := h.lc
  have hbe := h.e.lt
  have hbb := h.b.lt
  have hba := h.a.lt
  have hga := h.lt
  clear h hun hjn hl hqb hnm
  have e0 : (w.alloc (.cells #[.string ⟨#[]⟩, .int .i64 0, .int .i64 0, .int .i64 0, .slice none 0 0] 48)).cell? ⟨be, 0, none⟩ = some (.int .i64 0) := D1.out.e.cell 0
  have e1 : (w.alloc (.cells #[.string ⟨#[]⟩, .int .i64 0, .int .i64 0, .int .i64 0, .slice none 0 0] 48)).cell? ⟨bb, 0, none⟩ = some (.slice (some ⟨ga, oa, none⟩) l.length c) := D1.out.b.cell 0
  have e2 : (w.alloc (.cells #[.string ⟨#[]⟩, .int .i64 0, .int .i64 0, .int .i64 0, .slice none 0 0] 48)).cell? ⟨ba, 0, none⟩ = some (.int .i64 P.length) := D1.out.a.cell 0
  go_enter Tryd.func29, Tryd.ntmps29
  go_wp2_with fail
  refine (unpC ga oa l c P.length _ D1.out.by_ DL hlc (by omega) _ HU).mono ?_
  rintro e w2 ⟨rfl, b2⟩
  rw [HJ.out]
  have D2 := Lib.hid (D1.out.nx b2)
  have Z2 := Lib.hid (Z1.out.nx b2)
  have K2' := Lib.hid (K1.out.below b2)
  have hz : w.heap.size < w2.heap.size := Z2.out.lt
  clear b2 e0 e1 e2
  have zne : w.heap.size ≠ be := by omega
  have zna : w.heap.size ≠ ba := by omega
  have znb : w.heap.size ≠ bb := by omega
  have zng : w.heap.size ≠ ga := by omega
  -- the name, the place, no error
  have k1 := only_set w2 w.heap.size 0 (.string r.nm)
  have D3 := Lib.hid (D2.out.only k1 zne znb zna zng)
  have Z3 := Lib.hid (Z2.out.set_ 0 (.string r.nm))
  have D4 := Lib.hid (D3.out.setA q1)
  have Z4 := Lib.hid (Z3.out.far (p := ⟨ba, 0, none⟩) zna (.int .i64 (q1 : Nat)))
  have D5 := Lib.hid D4.out.setE
  have Z5 := Lib.hid (Z4.out.far (p := ⟨be, 0, none⟩) zne (.int .i64 0))
  have K5 := Lib.hid (((K2'.out.set (p := ⟨w.heap.size, 0, none⟩) (.inr (.inr (Nat.le_refl _))) (.string r.nm)).set (p := ⟨ba, 0, none⟩) (.inr (.inl rfl)) (.int .i64 (q1 : Nat))).set (p := ⟨be, 0, none⟩) (.inl rfl) (.int .i64 0))
  have s0 : w2.cell? ⟨w.heap.size, 0, none⟩ = some (.string ⟨#[]⟩) := Z2.out.cell 0
  have s0f := Z2.out.frozen 0
  have s1 := D3.out.a.cell 0
  have s1f := D3.out.a.frozen 0
  have s2 := D4.out.e.cell 0
  have s2f := D4.out.e.frozen 0
  have s3 := D5.out.e.cell 0
  have s4 := D5.out.b.cell 0
  have s5 := D5.out.a.cell 0
  simp only [List.getElem?_toArray, List.getElem?_cons_zero] at s1 s2 s3 s4 s5
  dsimp only
  have hq5 : q1 ≤ l.length := by omega
  have hq6 : ¬ c = q1 := by omega
  have HQ3 := Lib.hid hq3
  clear hq3
  go_wp2_with fail
  have N5 := Lib.hid (cut_at D5.out.by_ rfl hq5 hlc hq6)
  have Z5' : Hid (Blk _ w.heap.size 48 #[.string r.nm, .int .i64 0, .int .i64 0, .int .i64 0, .slice none 0 0]) := Z5.out
  clear s0 s0f s1 s1f s2 s2f s3 s4 s5 k1 D2 D3 D4 Z2 Z3 Z4 Z5 K2'
  generalize ((w2.setCell ⟨w.heap.size, 0, none⟩ (.string r.nm)).setCell ⟨ba, 0, none⟩ (.int .i64 (q1 : Nat))).setCell ⟨be, 0, none⟩ (.int .i64 0) = w5 at D5 Z5' K5 N5 ⊢
  refine (newReader w5 (some ⟨ga, oa + q1, none⟩) (l.drop q1) (l.length - q1) (c - q1) N5.out (by rw [List.length_drop]) (by rw [List.length_drop]; omega)).mono ?_
  rintro e w6 ⟨br, rfl, hbr, hR, b6⟩
  rw [HDR.out] at hR
  have hz5 := Z5'.out.lt
  have D6 := Lib.hid (D5.out.nx b6)
  have Z6 := Lib.hid (Z5'.out.nx b6)
  have K6 := Lib.hid (K5.out.below b6)
  have R6 := Lib.hid hR
  have r1 : br ≠ be := by omega
  have r2 : br ≠ bb := by omega
  have r3 : br ≠ ba := by omega
  have r4 : br ≠ ga := by omega
  have r5 : w.heap.size ≠ br := by omega
  have r6 : w.heap.size ≤ br := by omega
  clear hR b6 D5 Z5' K5 N5
  go_wp2_with fail
  refine (rb2 w6 br _ _ R6.out (beB_len _ 2)).mono ?_
  rintro e w7 ⟨rfl, hR7, g7⟩
  have v7 : ((beN (beB r.t.toNat 2) : Nat) : Int) = r.t := by rw [beN_beB2 _ (by have := hq.t0; have := hq.t1; omega)]; have := hq.t0; omega
  rw [v7]
  have D7 := Lib.hid (D6.out.only g7 r1 r2 r3 r4)
  have Z7 := Lib.hid (Z6.out.only g7 r5)
  have K7 := Lib.hid (K6.out.grow g7 r6)
  have R7 := Lib.hid hR7
  clear hR7 g7 v7 D6 Z6 K6 R6
  go_wp2_with fail
  refine (rb2 w7 br _ _ R7.out (beB_len _ 2)).mono ?_
  rintro e w8 ⟨rfl, hR8, g8⟩
  have v8 : ((beN (beB r.c.toNat 2) : Nat) : Int) = r.c := by rw [beN_beB2 _ (by have := hq.c0; have := hq.c1; omega)]; have := hq.c0; omega
  rw [v8]
  have D8 := Lib.hid (D7.out.only g8 r1 r2 r3 r4)
  have Z8 := Lib.hid (Z7.out.only g8 r5)
  have K8 := Lib.hid (K7.out.grow g8 r6)
  have R8 := Lib.hid hR8
  clear hR8 g8 v8 D7 Z7 K7 R7
  have k1 := only_set w8 w.heap.size 1 (.int .i64 r.t)
  have D9 := Lib.hid (D8.out.only k1 zne znb zna zng)
  have Z9 := Lib.hid (Z8.out.set_ 1 (.int .i64 r.t))
  have R9 := Lib.hid (R8.out.oth k1 Z8.out (by decide) (by decide) (by decide))
  have k2 := only_set (w8.setCell ⟨w.heap.size, 1, none⟩ (.int .i64 r.t)) w.heap.size 2 (.int .i64 r.c)
  have D10 := Lib.hid (D9.out.only k2 zne znb zna zng)
  have Z10 : Hid (Blk ((w8.setCell ⟨w.heap.size, 1, none⟩ (.int .i64 r.t)).setCell ⟨w.heap.size, 2, none⟩ (.int .i64 r.c)) w.heap.size 48 #[.string r.nm, .int .i64 r.t, .int .i64 r.c, .int .i64 0, .slice none 0 0]) := Z9.out.set_ 2 (.int .i64 r.c)
  have R10 := Lib.hid (R9.out.oth k2 Z9.out (by decide) (by decide) (by decide))
  have K10 := Lib.hid ((K8.out.set (p := ⟨w.heap.size, 1, none⟩) (.inr (.inr (Nat.le_refl _))) (.int .i64 r.t)).set (p := ⟨w.heap.size, 2, none⟩) (.inr (.inr (Nat.le_refl _))) (.int .i64 r.c))
  have s1 := Z8.out.cell 1
  have s1f := Z8.out.frozen 1
  have s2 := Z9.out.cell 2
  have s2f := Z9.out.frozen 2
  clear k1 k2
  go_wp2_with fail
  clear s1 s1f s2 s2f D8 Z8 K8 R8 D9 Z9 R9
  generalize (w8.setCell ⟨w.heap.size, 1, none⟩ (.int .i64 r.t)).setCell ⟨w.heap.size, 2, none⟩ (.int .i64 r.c) = w10 at D10 Z10 K10 R10 ⊢
  refine (rerr w10 br S 0 R10.out).mono ?_
  rintro e w' ⟨rfl, e10⟩
  have e11 := e10.symm
  subst e11
  have RD := Lib.hid (R10.out.nx (rf w10).drew)
  have s1 := D10.out.b.cell 0
  have s2 := D10.out.a.cell 0
  have s2f := D10.out.a.frozen 0
  simp only [List.getElem?_toArray, List.getElem?_cons_zero] at s1 s2
  have sbw : IntKind.i64.wrap ((l.length : Int) - (S.length : Nat)) = (q2 : Nat) := by
    have := HLL.out
    have h2 : l.length = q2 + S.length := by have h3 := congrArg List.length HDR2.out; rw [List.length_drop] at h3; omega
    rw [show ((l.length : Int) - (S.length : Nat)) = (q2 : Nat) by omega]
    exact IntWalk.i64_in _ (by omega)
  have D11 := Lib.hid ((D10.out.setA q2).nx (rf _).drew)
  have Z11 := Lib.hid ((Z10.out.far (p := ⟨ba, 0, none⟩) zna (.int .i64 (q2 : Nat))).nx (rf _).drew)
  have K11 := Lib.hid ((K10.out.set (p := ⟨ba, 0, none⟩) (.inr (.inl rfl)) (.int .i64 (q2 : Nat))).below (rf _).drew)
  go_wp2
  go_region_with (first
      | (go_at_call 31; refine (rleft _ br S 0 RD.out).mono ?_; rintro e w' ⟨rfl, e12⟩; have e13 := e12.symm; subst e13)
      | fail)
  all_goals
    clear s1 s2 s2f sbw
    generalize (w10.setCell ⟨ba, 0, none⟩ (.int .i64 (q2 : Nat))).drew = w11 at D11 Z11 K11 ⊢
    have y0 := Z11.out.cell 0
    have y1 := Z11.out.cell 1
    have y2 := Z11.out.cell 2
    have y3 := Z11.out.cell 3
    have y4 := Z11.out.cell 4
    simp only [List.getElem?_toArray, List.getElem?_cons_zero, List.getElem?_cons_succ] at y0 y1 y2 y3 y4
    have D12 := Lib.hid (D11.out.only (only_row w11 w.heap.size #[.string r.nm, .int .i64 r.t, .int .i64 r.c, .int .i64 0, .slice none 0 0]) zne znb zna zng)
    have K12 := Lib.hid (K11.out.row (Nat.le_refl _) #[.string r.nm, .int .i64 r.t, .int .i64 r.c, .int .i64 0, .slice none 0 0])
    go_wp2_with (refine wpList_store_row rfl 48 (.tmp 5) (.tmp 70) rfl _ #[.string r.nm, .int .i64 r.t, .int .i64 r.c, .int .i64 0, .slice none 0 0] rfl rfl _ _ Z11.out (by kernel_rfl) rfl (by kernel_rfl) ?_)
    have HX : Blk (w11.setRow w.heap.size #[.string r.nm, .int .i64 r.t, .int .i64 r.c, .int .i64 0, .slice none 0 0]) w.heap.size 48 #[.string r.nm, .int .i64 r.t, .int .i64 r.c, .int .i64 0, .slice none 0 0] := setRow_heap _ _ _ _ _ _ Z11.out
    refine bodyPost_ret (v := .agg #[.string r.nm, .int .i64 r.t, .int .i64 r.c, .int .i64 0, .slice none 0 0]) (results_cell_row rfl _ _ _ _ _ _ _ rfl HX Tryd.underlying48 rfl (by kernel_rfl)) rfl ?_
    exact ⟨rfl, D12.out, K12.out⟩
end Go.Proofs.YtpfkmmmlocmakaaDoor
