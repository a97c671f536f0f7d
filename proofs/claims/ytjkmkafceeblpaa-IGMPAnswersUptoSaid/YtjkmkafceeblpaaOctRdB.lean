/-
  The reader of bytes: what is left of it, and what its methods give (where Left is not in the cut).
-/
import Derived.Test.YtjkmkafceeblpaaOctW
import Derived.Laws.EntriesVeiled
set_option linter.unusedVariables false
namespace Go.Proofs.Ytjkmkafceeblpaa
open Go.RowKit

theorem neq_nilf (w : World) : (binOp .neq 87 .nilFunc .nilFunc).run Try.prog w = .ok (.bool false) w := by
  have h : ∀ d : Nat, (Op.equalIn (d + 1) 87 .nilFunc .nilFunc).run Try.prog w = .ok true w := fun d => by
    simp [Op.equalIn, run_underlying Try.underlying87]
  simp only [binOp]
  simp [Op.equal, Op.maxDepth, h 9999]
theorem neq_fn (w : World) (f : Fn) (a b : Array Value) : (binOp .neq 87 (.func f a b) .nilFunc).run Try.prog w = .ok (.bool true) w := by
  have h : ∀ d : Nat, (Op.equalIn (d + 1) 87 (.func f a b) .nilFunc).run Try.prog w = .ok false w := fun d => by
    simp [Op.equalIn, run_underlying Try.underlying87]
  simp only [binOp]
  simp [Op.equal, Op.maxDepth, h 9999]
-- the reader in block b: what is left, its error, its closure (over the variable in block x)
def RdV (x : Nat) : Value := .func (Fn.func 64) #[] #[.pointer (some ⟨x, 0, none⟩)]
def RowTy (w : World) (A : Option Addr) : Prop := ∀ ad, A = some ad → ∃ cur fz, w.heap[ad.block]? = some (.cells cur 5 fz)
theorem RowTy.lt {w : World} {A : Option Addr} (h : RowTy w A) : ∀ ad, A = some ad → ad.block < w.heap.size := fun ad hA => by
  obtain ⟨cur, fz, hh⟩ := h ad hA
  exact (Array.getElem?_eq_some_iff.1 hh).1
theorem RowTy.ne {w : World} {A : Option Addr} {g : Nat} {t : TypeId} {cs : Array Value} (h : RowTy w A) (hg : Blk w g t cs) (ht : t ≠ 5) : ∀ ad, A = some ad → ad.block ≠ g := fun ad hA e => by
  obtain ⟨cur, fz, hh⟩ := h ad hA
  rw [e] at hh
  unfold Blk at hg
  rw [hg] at hh
  injection hh with hh
  injection hh with _ h2
  exact ht h2
theorem RowTy.nx {w w' : World} {A : Option Addr} (h : RowTy w A) (k : Below w.heap.size w w') : RowTy w' A := fun ad hA => by
  obtain ⟨cur, fz, hh⟩ := h ad hA
  exact ⟨cur, fz, (k.block _ (h.lt ad hA)).trans hh⟩
theorem RowTy.only {w w' : World} {A : Option Addr} {g : Nat} {t : TypeId} {cs : Array Value} (h : RowTy w A) (k : w.grownBy w' (some g)) (hg : Blk w g t cs) (ht : t ≠ 5) : RowTy w' A := fun ad hA => by
  obtain ⟨cur, fz, hh⟩ := h ad hA
  exact ⟨cur, fz, (k.block _ (h.lt ad hA) (by intro e; injection e with e; exact h.ne hg ht ad hA e)).trans hh⟩
def IsR (w : World) (b : Nat) (l : List UInt8) (err : Int) : Prop :=
  ∃ (A : Option Addr) (n c x : Nat), Blk w b 98 #[.slice A n c, .int .i64 err, .func (Fn.func 64) #[] #[.pointer (some ⟨x, 0, none⟩)]] ∧ Blk w x 67 #[.pointer (some ⟨b, 0, none⟩)] ∧
    Hid (n = l.length) ∧ n ≤ c ∧ Bytes w A l ∧ RowTy w A ∧ n ≤ 1099511627776
theorem IsR.nx {w w' : World} {b : Nat} {l : List UInt8} {err : Int} (h : IsR w b l err) (k : Below w.heap.size w w') : IsR w' b l err := by
  obtain ⟨A, n, c, x, h1, h2, h3, h4, h5, h6, h7⟩ := h
  exact ⟨A, n, c, x, h1.nx k, h2.nx k, h3, h4, h5.nx k, h6.nx k, h7⟩
set_option maxHeartbeats 400000 in
theorem ready_new (w : World) (b : Nat) (A : Option Addr) (n c : Nat) (hb : Blk w b 98 #[.slice A n c, .int .i64 0, .nilFunc]) :
    Calls Try.prog 50 #[.pointer (some ⟨b, 0, none⟩)] w fun e w' => e = .returned (.tuple #[]) ∧
      Blk w' b 98 #[.slice A n c, .int .i64 0, .func (Fn.func 64) #[] #[.pointer (some ⟨w.heap.size, 0, none⟩)]] ∧ Blk w' w.heap.size 67 #[.pointer (some ⟨b, 0, none⟩)] ∧ w.grownBy w' (some b) := by
  have h0 := hb.cell 0; have h1 := hb.cell 1; have h2 := hb.cell 2
  simp only [List.getElem?_toArray, List.getElem?_cons_succ, List.getElem?_cons_zero] at h0 h1 h2
  have f2 := hb.frozen 2
  have hlt := hb.lt
  have HB := Lib.hid hb; clear hb
  have hq := neq_nilf
  go_enter Try.func50, Try.ntmps50
  go_wp2
  go_end0
  exact ⟨rfl, (HB.out.set_ 2 _).alloc _, blk_at _ _ _ (by simp), only_alloc (only_setCell (World.grownBy.refl w _) (.inl rfl) _) _⟩
set_option maxHeartbeats 400000 in
theorem ready_old (w : World) (b : Nat) (l : List UInt8) (err : Int) (h : IsR w b l err) :
    Calls Try.prog 50 #[.pointer (some ⟨b, 0, none⟩)] w fun e w' => e = .returned (.tuple #[]) ∧ Below w.heap.size w w' := by
  obtain ⟨A, n, c, x, hb, hx, _⟩ := h
  have h0 := hb.cell 0; have h1 := hb.cell 1; have h2 := hb.cell 2
  simp only [List.getElem?_toArray, List.getElem?_cons_succ, List.getElem?_cons_zero] at h0 h1 h2
  have hlt := hb.lt
  clear hb hx
  have hq := fun w x => neq_fn w (Fn.func 64) #[] #[.pointer (some ⟨x, 0, none⟩)]
  go_enter Try.func50, Try.ntmps50
  go_wp2
  refine bodyPost_ret (results_none rfl _ _ _) rfl ?_
  exact ⟨rfl, al (rf w) _⟩
theorem IsR.only {w w' : World} {b : Nat} {l : List UInt8} {err : Int} (h : IsR w b l err) (k : Below w.heap.size w w') : IsR w' b l err := h.nx k
-- the closure: the next n bytes, or nothing from an error on
set_option maxHeartbeats 800000 in
theorem next_bad (w : World) (b x : Nat) (A : Option Addr) (n c : Nat) (err m : Int) (hb : Blk w b 98 #[.slice A n c, .int .i64 err, RdV x]) (hx : Blk w x 67 #[.pointer (some ⟨b, 0, none⟩)])
    (hn : n ≤ 1099511627776) (he : err = 0 ∨ err = 2) (hm : err = 2 ∨ m < 0 ∨ (n : Int) < m) :
    Calls Try.prog 64 #[.int .i64 m, .pointer (some ⟨x, 0, none⟩)] w fun e w' => e = .returned (.slice none 0 0) ∧ Blk w' b 98 #[.slice none 0 0, .int .i64 2, RdV x] ∧ w.grownBy w' (some b) := by
  have h0 := hb.cell 0; have h1 := hb.cell 1
  simp only [List.getElem?_toArray, List.getElem?_cons_succ, List.getElem?_cons_zero] at h0 h1
  have f0 := hb.frozen 0; have f1 := hb.frozen 1
  have hxc := hx.cell 0
  simp only [List.getElem?_toArray, List.getElem?_cons_zero] at hxc
  have hlt := hb.lt
  have hxb : x ≠ b := hx.ne_ hb (by decide)
  have Kx : ∀ (i : Nat) (v : Value), (w.setCell ⟨b, i, none⟩ v).cell? ⟨x, 0, none⟩ = some (.pointer (some ⟨b, 0, none⟩)) := fun i v => (hx.far (p := ⟨b, i, none⟩) hxb v).cell 0
  have Kxx : ∀ (i j : Nat) (v u : Value), ((w.setCell ⟨b, i, none⟩ v).setCell ⟨b, j, none⟩ u).cell? ⟨x, 0, none⟩ = some (.pointer (some ⟨b, 0, none⟩)) := fun i j v u => ((hx.far (p := ⟨b, i, none⟩) hxb v).far (p := ⟨b, j, none⟩) hxb u).cell 0
  have HB := Lib.hid hb; clear hb
  by_cases e2 : err = 2
  · subst e2
    have q1 : ((2 : Int) != 0) = true := rfl
    go_enter Try.func64, Try.ntmps64
    go_wp2
    go_region
    go_wp2
    go_ret
    exact ⟨rfl, (HB.out.set_ 0 _).set_ 1 _, only_drew (only_setCell (p := ⟨b, 1, none⟩) (only_setCell (p := ⟨b, 0, none⟩) (World.grownBy.refl w _) (.inl rfl) _) (.inl rfl) _)⟩
  · have e0 : err = 0 := by omega
    subst e0
    have q1 : ((0 : Int) != 0) = false := rfl
    by_cases m0 : m < 0
    · go_enter Try.func64, Try.ntmps64
      go_wp2
      go_region
      go_wp2
      go_ret
      exact ⟨rfl, (HB.out.set_ 0 _).set_ 1 _, only_drew (only_setCell (p := ⟨b, 1, none⟩) (only_setCell (p := ⟨b, 0, none⟩) (World.grownBy.refl w _) (.inl rfl) _) (.inl rfl) _)⟩
    · have m1 : (n : Int) < m := by omega
      go_enter Try.func64, Try.ntmps64
      go_wp2
      go_region
      go_wp2
      go_ret
      exact ⟨rfl, (HB.out.set_ 0 _).set_ 1 _, only_drew (only_setCell (p := ⟨b, 1, none⟩) (only_setCell (p := ⟨b, 0, none⟩) (World.grownBy.refl w _) (.inl rfl) _) (.inl rfl) _)⟩
def cutA (A : Option Addr) (c m : Nat) : Option Addr := if c = m then A else A.map (·.add m)
set_option maxHeartbeats 800000 in
theorem next_ok (w : World) (b x : Nat) (A : Option Addr) (n c m : Nat) (hb : Blk w b 98 #[.slice A n c, .int .i64 0, RdV x]) (hx : Blk w x 67 #[.pointer (some ⟨b, 0, none⟩)])
    (hn : n ≤ 1099511627776) (hc : n ≤ c) (hm : m ≤ n) :
    Calls Try.prog 64 #[.int .i64 m, .pointer (some ⟨x, 0, none⟩)] w fun e w' => e = .returned (.slice A m m) ∧ Blk w' b 98 #[.slice (cutA A c m) (n - m) (c - m), .int .i64 0, RdV x] ∧ w.grownBy w' (some b) := by
  have h0 := hb.cell 0; have h1 := hb.cell 1
  simp only [List.getElem?_toArray, List.getElem?_cons_succ, List.getElem?_cons_zero] at h0 h1
  have f0 := hb.frozen 0; have f1 := hb.frozen 1
  have hxc := hx.cell 0
  simp only [List.getElem?_toArray, List.getElem?_cons_zero] at hxc
  have hlt := hb.lt
  have hxb : x ≠ b := hx.ne_ hb (by decide)
  have Kx : ∀ (i : Nat) (v : Value), (w.setCell ⟨b, i, none⟩ v).cell? ⟨x, 0, none⟩ = some (.pointer (some ⟨b, 0, none⟩)) := fun i v => (hx.far (p := ⟨b, i, none⟩) hxb v).cell 0
  have HB := Lib.hid hb; clear hb
  have q1 : ((0 : Int) != 0) = false := rfl
  have m0 : ¬ (m : Int) < 0 := by omega
  have m1 : ¬ (n : Int) < m := by omega
  have m2 : (m : Int) ≤ n := by omega
  have m3 : (m : Int) ≤ c := by omega
  go_enter Try.func64, Try.ntmps64
  go_wp2
  go_region
  go_wp2
  · have hcm : c = m := by assumption
    go_ret
    have hk := HB.out.set_ 0 (.slice A (n - m) 0)
    have e1 : cutA A m m = A := if_pos rfl
    refine ⟨rfl, by rw [e1]; exact hk, only_drew (only_setCell (p := ⟨b, 0, none⟩) (World.grownBy.refl w _) (.inl rfl) _)⟩
  · have hcm : ¬ c = m := by assumption
    go_ret
    have hk := HB.out.set_ 0 (.slice (A.map (·.add m)) (n - m) (c - m))
    have e1 : cutA A c m = A.map (·.add m) := if_neg hcm
    refine ⟨rfl, by rw [e1]; exact hk, only_drew (only_setCell (p := ⟨b, 0, none⟩) (World.grownBy.refl w _) (.inl rfl) _)⟩

-- the same, said of the reader
def rdN (l : List UInt8) (err m : Int) : List UInt8 × List UInt8 × Int := if err = 2 ∨ m < 0 ∨ (l.length : Int) < m then ([], [], 2) else (l.take m.toNat, l.drop m.toNat, 0)
theorem cut_bytes {w : World} {A : Option Addr} {l : List UInt8} {n c m : Nat} (h : Bytes w A l) (hn : n = l.length) (hm : m ≤ n) (hc : n ≤ c) : Bytes w (cutA A c m) (l.drop m) := by
  subst hn
  have h1 := Reads.cut (cap := c) h hm hc
  rw [Nat.mul_one] at h1
  unfold Bytes cutA
  rw [List.length_drop]
  have e : Lib.byteCells (l.drop m) = (Lib.byteCells l).drop m := by simp [Lib.byteCells]
  rw [e]; exact h1
theorem take_bytes {w : World} {A : Option Addr} {l : List UInt8} {m : Nat} (h : Bytes w A l) (hm : m ≤ l.length) : Bytes w A (l.take m) := by
  refine ⟨by rw [byteCells_len, Nat.mul_one], fun hn => ?_⟩
  rw [List.length_take] at hn
  obtain ⟨ad, h1, h2, h3⟩ := Reads.at_ h (show 0 < l.length by omega)
  obtain ⟨ad', h4, h5, h6⟩ := h.2 (by omega)
  refine ⟨ad', h4, h5, fun j u hu => h6 j u ?_⟩
  have e : Lib.byteCells (l.take m) = (Lib.byteCells l).take m := by simp [Lib.byteCells]
  rw [e] at hu
  by_cases hj : j < m
  · rwa [List.getElem?_take_of_lt hj] at hu
  · rw [List.getElem?_eq_none (by rw [List.length_take]; omega)] at hu; cases hu
theorem bytes_only {w w' : World} {A : Option Addr} {l : List UInt8} {b : Nat} (h : Bytes w A l) (g : w.grownBy w' (some b)) (hA : ∀ ad, A = some ad → ad.block ≠ b) : Bytes w' A l := by
  refine ⟨h.1, fun hn => ?_⟩
  obtain ⟨ad, h1, h2, h3⟩ := h.2 hn
  refine ⟨ad, h1, Nat.lt_of_lt_of_le h2 g.size, fun j u hu => ?_⟩
  rw [World.cell?_of_block (g.block (ad.add j).block (by rw [block_of_add]; exact h2) (by rw [block_of_add]; intro e; injection e with e; exact hA ad h1 e))]
  exact h3 j u hu
theorem cutA_ty {w : World} {A : Option Addr} {c m : Nat} (h : RowTy w A) : RowTy w (cutA A c m) := by
  intro ad
  unfold cutA
  split
  · exact h ad
  · cases A with
    | none => simp
    | some a0 => simp only [Option.map_some, Option.some.injEq]; rintro rfl; rw [block_of_add]; exact h a0 rfl
theorem next_any (w : World) (b x : Nat) (l : List UInt8) (A : Option Addr) (n c : Nat) (err m : Int) (hb : Blk w b 98 #[.slice A n c, .int .i64 err, RdV x]) (hx : Blk w x 67 #[.pointer (some ⟨b, 0, none⟩)])
    (hl : n = l.length) (hc : n ≤ c) (hA : Bytes w A l) (hty : RowTy w A) (hn : n ≤ 1099511627776) (he : err = 0 ∨ err = 2) :
    Calls Try.prog 64 #[.int .i64 m, .pointer (some ⟨x, 0, none⟩)] w fun e w' => ∃ A' n' c', e = .returned (.slice A' n' c') ∧ Hid (n' = (rdN l err m).1.length) ∧ Bytes w' A' (rdN l err m).1 ∧ IsR w' b (rdN l err m).2.1 (rdN l err m).2.2 ∧ w.grownBy w' (some b) := by
  by_cases hbad : err = 2 ∨ m < 0 ∨ (l.length : Int) < m
  · have e1 : rdN l err m = ([], [], 2) := if_pos hbad
    rw [e1]
    refine (next_bad w b x A n c err m hb hx hn he (by rw [hl]; exact hbad)).mono ?_
    rintro e w' ⟨rfl, hb', g⟩
    exact ⟨none, 0, 0, rfl, rfl, Bytes.nil _ _, ⟨none, 0, 0, x, hb', hx.grown g (by intro e; injection e with e; exact hx.ne_ hb (by decide) e), rfl, Nat.le_refl _, Bytes.nil _ _, fun ad h => (by cases h), by omega⟩, g⟩
  · have e1 : rdN l err m = (l.take m.toNat, l.drop m.toNat, 0) := if_neg hbad
    rw [e1]
    obtain rfl : err = 0 := by omega
    obtain ⟨k, rfl⟩ : ∃ k : Nat, m = k := ⟨m.toNat, by omega⟩
    refine (next_ok w b x A n c k hb hx hn hc (by omega)).mono ?_
    rintro e w' ⟨rfl, hb', g⟩
    rw [Int.toNat_natCast]
    have hA' := bytes_only hA g (hty.ne hb (by decide))
    refine ⟨A, k, k, rfl, by rw [List.length_take]; show k = _; omega, take_bytes hA' (by omega), ⟨_, _, _, x, hb', hx.grown g (by intro e; injection e with e; exact hx.ne_ hb (by decide) e), by rw [List.length_drop, hl]; rfl, by omega, cut_bytes hA' hl (by omega) hc, cutA_ty (hty.only g hb (by decide)), by omega⟩, g⟩

theorem below_of_only {a w : World} {b : Nat} (h : a.grownBy w (some b)) : Below b a w ∨ True := .inr trivial
theorem only_below {a w : World} {b B : Nat} (h : a.grownBy w (some b)) (hB : B ≤ b) (hs : B ≤ a.heap.size) : Below B a w :=
  ⟨h.os, h.tape, h.output, h.size, fun k hk => h.block k (by omega) (by intro e; injection e with e; omega)⟩
set_option maxHeartbeats 400000 in
theorem newReader (w : World) (A : Option Addr) (l : List UInt8) (n c : Nat) (h : Bytes w A l) (hn : n = l.length) (hl : l.length ≤ 1099511627776) :
    Calls Try.prog 26 #[.slice A n c] w fun e w' => ∃ b, e = .returned (.pointer (some ⟨b, 0, none⟩)) ∧ w.heap.size ≤ b ∧ IsR w' b l 0 ∧ Below w.heap.size w w' := by
  subst hn
  go_enter Try.func26, Try.ntmps26
  go_wp2_with (at_builtin; refine app_any stB rfl (.const (.slice none 0 0)) (.tmp 4) rfl w.heap.size _ 0 [] rfl (World.ownsRow_nil _ _ _ _) A l.length c (Lib.byteCells l) rfl h (one_u8 l) (by omega) (by omega) (Nat.le_refl _) ?_; intro v1 w1 own1 gr1 at1 bel1; obtain ⟨ao, cap1, rfl⟩ := own_slice own1)
  have hB : Blk (w1.alloc (.cells #[.slice ao (0 + l.length) cap1, .int .i64 0, .nilFunc] 98)) w1.heap.size 98 #[.slice ao (0 + l.length) cap1, .int .i64 0, .nilFunc] := Blk.new _ _ _
  rw [Nat.zero_add] at own1 hB
  have hbys : Bytes w1 ao l := Bytes.own (by simpa using own1)
  have hty : RowTy w1 ao := by
    rintro ad rfl
    rcases own1.2 with ⟨h1, _⟩ | ⟨g, cap, cur, h1, _, h2, _⟩
    · cases h1
    · injection h1 with h1; injection h1 with h1; subst h1; exact ⟨_, _, h2⟩
  have hty1 := hty.nx ((Below.refl _ _).alloc (Nat.le_refl _) (.cells #[.slice ao l.length cap1, .int .i64 0, .nilFunc] 98))
  have hcap : l.length ≤ cap1 := by
    rcases own1.2 with ⟨h1, h2⟩ | ⟨g, cap, cur, h1, _, _, h2, _⟩
    · omega
    · injection h1 with _ _ h1; omega
  refine (ready_new _ w1.heap.size ao l.length cap1 hB).mono ?_
  rintro e w2 ⟨rfl, hb2, hx2, g2⟩
  go_wp2
  go_ret
  refine ⟨w1.heap.size, rfl, bel1.size, ⟨ao, l.length, cap1, _, hb2, hx2, rfl, hcap, bytes_only (hbys.al _) g2 (hty1.ne hB (by decide)), hty1.only g2 hB (by decide), hl⟩, ?_⟩
  exact (al bel1 _).trans (only_below g2 bel1.size (by simp; have := bel1.size; omega))
theorem IsR.left {w : World} {b : Nat} {l : List UInt8} {err : Int} (h : IsR w b l err) : ∃ (A : Option Addr) (n c : Nat), w.cell? ⟨b, 0, none⟩ = some (.slice A n c) ∧ n = l.length ∧ w.cell? ⟨b, 1, none⟩ = some (.int .i64 err) ∧ n ≤ 1099511627776 := by
  obtain ⟨A, n, c, x, hb, _, h3, _, _, _, h7⟩ := h
  exact ⟨A, n, c, hb.cell 0, h3.out, hb.cell 1, h7⟩
theorem rdN_le (l : List UInt8) (err m : Int) : (rdN l err m).1.length ≤ l.length := by
  unfold rdN
  split
  · simp
  · simp [List.length_take]; omega
theorem then_only {a w v : World} {b : Nat} (h : Below a.heap.size a w) (k : w.grownBy v (some b)) : a.grownBy v (some b) :=
  ⟨k.os.trans h.os, k.tape.trans h.tape, k.output.trans h.output, Nat.le_trans h.size k.size, fun i hi hne => (k.block i (Nat.lt_of_lt_of_le hi h.size) hne).trans (h.block i hi)⟩
theorem only_then {a w v : World} {b : Nat} (h : a.grownBy w (some b)) (k : Below a.heap.size w v) : a.grownBy v (some b) :=
  ⟨k.os.trans h.os, k.tape.trans h.tape, k.output.trans h.output, Nat.le_trans h.size k.size, fun i hi hne => (k.block i hi).trans (h.block i hi hne)⟩
theorem bel3' {w v : World} (h : w.grownBy v (Value.ownBlock (.slice none 0 0))) : Below w.heap.size w v := ⟨h.os, h.tape, h.output, h.size, fun i hi => h.block i hi (by simp [Value.ownBlock])⟩
-- bytes as a number, the highest first
def beN (l : List UInt8) : Nat := l.foldl (fun v b => v * 256 + b.toNat) 0
theorem beN_snoc (l : List UInt8) (b : UInt8) : beN (l ++ [b]) = beN l * 256 + b.toNat := by simp [beN]
theorem fold_lt : ∀ (l : List UInt8) (v : Nat), l.foldl (fun v b => v * 256 + b.toNat) v < (v + 1) * 256 ^ l.length
  | [], v => by simp
  | b :: l, v => by
    have h := fold_lt l (v * 256 + b.toNat)
    have hb := b.toNat_lt
    rw [List.foldl_cons, List.length_cons, Nat.pow_succ']
    refine Nat.lt_of_lt_of_le h ?_
    rw [← Nat.mul_assoc]
    exact Nat.mul_le_mul_right _ (by omega)
theorem beN_lt (l : List UInt8) : beN l < 256 ^ l.length := by
  have := fold_lt l 0
  simpa [beN] using this
theorem or_byte (v b : Int) (h0 : 0 ≤ v) (h1 : v < 16777216) (h2 : 0 ≤ b) (h3 : b < 256) : bits .or .u32 (v * 256) b = v * 256 + b := by
  rw [u32_or _ _ (by omega) (by omega) h2 (by omega)]
  have hx : (v * 256).toNat = v.toNat * 256 := by omega
  rw [hx]
  have := nat_join 8 (v.toNat * 256) b.toNat (by omega) (by omega)
  rw [this]; omega
set_option maxHeartbeats 800000 in
theorem rnumber (w : World) (b : Nat) (l : List UInt8) (err : Int) (m : Nat) (h : IsR w b l err) (he : err = 0 ∨ err = 2) (hm : m ≤ 4) :
    Calls Try.prog 51 #[.pointer (some ⟨b, 0, none⟩), .int .i64 m] w fun e w' => e = .returned (.int .u32 (beN (rdN l err m).1)) ∧ IsR w' b (rdN l err m).2.1 (rdN l err m).2.2 ∧ w.grownBy w' (some b) := by
  go_enter Try.func51, Try.ntmps51
  go_wp2_with fail
  refine (ready_old _ b l err h).mono ?_
  rintro e w1 ⟨rfl, hb1⟩
  obtain ⟨A, n, c, x, hb, hx, hn, hc, hA, hne, hlen⟩ := h.nx hb1
  have h2 := hb.cell 2
  simp only [List.getElem?_toArray, List.getElem?_cons_succ, List.getElem?_cons_zero] at h2
  have HB := Lib.hid hb; clear hb
  go_wp2_with fail
  refine (next_any _ b x l A n c err m HB.out hx hn.out hc hA hne hlen he).mono ?_
  rintro e w2 ⟨A2, n2, c2, rfl, hn2, hA2, hR2, g2⟩
  have hle := rdN_le l err m
  have hle4 : (rdN l err m).1.length ≤ 4 := by unfold rdN; split <;> simp [List.length_take]; omega
  have g02 : w.grownBy w2 (some b) := then_only hb1 g2
  generalize hq : (rdN l err m).1 = q at hn2 hA2 hle hle4 ⊢
  have HQ := Lib.hid hq; clear hq
  have hn4 : n2 ≤ 4 := by rw [hn2.out]; exact hle4
  clear HB h2 hA hne
  go_wp2
  go_loop [5, 17] (fun v i => ∃ k : Nat, k ≤ n2 ∧ i = .int .i64 k ∧ v = .int .u32 (beN (q.take k))) (fun _ i => n2 - (intOf i).toNat)
  case atStart => exact ⟨0, by omega, rfl, rfl⟩
  case round =>
    obtain ⟨k, hk, rfl, rfl⟩ := hrel
    have hlt0 := beN_lt (q.take k)
    by_cases hlt : k < n2
    · have hkq : k < q.length := by rw [← hn2.out]; exact hlt
      obtain ⟨ad, rfl, _, hc1⟩ := hA2.at_ hkq
      have hb3 := q[k].toNat_lt
      have hs : (beN (q.take k) : Int) < 16777216 := by
        have h1 : (q.take k).length ≤ 3 := by rw [List.length_take]; omega
        have h2 := Nat.pow_le_pow_right (n := 256) (by omega) h1
        have : (256 : Nat) ^ 3 = 16777216 := rfl
        omega
      have hsn : beN (q.take (k + 1)) = beN (q.take k) * 256 + q[k].toNat := by rw [List.take_succ_eq_append_getElem hkq, beN_snoc]
      have HSN := Lib.hid hsn; clear hsn hlt0
      have k1 : (k : Int) < n2 := by omega
      go_wp2
      go_round
      case rel => exact ⟨k + 1, by omega, by go_num, by rw [or_byte _ _ (by omega) hs (by omega) (by omega), HSN.out]; go_num⟩
      case measure => simp [intOf]; omega
    · go_wp2
      go_ret
      have e1 : q.take k = q := List.take_of_length_le (by rw [← hn2.out]; omega)
      refine ⟨ret_int (by rw [e1, HQ.out]), hR2, g02⟩
set_option maxHeartbeats 400000 in
theorem rtwo_rd (w : World) (b : Nat) (l : List UInt8) (err : Int) (h : IsR w b l err) (he : err = 0 ∨ err = 2) :
    Calls Try.prog 28 #[.pointer (some ⟨b, 0, none⟩)] w fun e w' => e = .returned (.int .i64 (beN (rdN l err 2).1)) ∧ IsR w' b (rdN l err 2).2.1 (rdN l err 2).2.2 ∧ w.grownBy w' (some b) := by
  have hlt := beN_lt (rdN l err 2).1
  have hle : (rdN l err 2).1.length ≤ 2 := by unfold rdN; split <;> simp [List.length_take]; omega
  have hp := Nat.pow_le_pow_right (n := 256) (by omega) hle
  have hs : (beN (rdN l err 2).1 : Int) < 65536 := by have : (256 : Nat) ^ 2 = 65536 := rfl; omega
  clear hlt hle hp
  go_enter Try.func28, Try.ntmps28
  go_wp2_with fail
  refine (rnumber _ b l err 2 h he (by omega)).mono ?_
  rintro e w1 ⟨rfl, h1, h2⟩
  rw [show ((2 : Nat) : Int) = 2 from rfl] at *
  go_wp2
  go_ret
  exact ⟨rfl, h1, h2⟩
end Go.Proofs.Ytjkmkafceeblpaa
