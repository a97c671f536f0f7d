/-
  IP: the walk of the law that any bytes are a packet, or refused for the first reason of all.
-/
import Derived.Test.YthjpdaflgphbbaaDoorIpRg
import Derived.Test.YthjpdaflgphbbaaDoorIpBh
import Derived.Test.YthjpdaflgphbbaaDoorIpCt
set_option linter.unusedVariables false
namespace Go.Proofs.YthjpdaflgphbbaaDoor
open Go.RowKit

def zPk : Pk := ⟨0, 0, false, false, 0, 0, 0, 0, 0, [], []⟩
-- what Decode says of bytes, and the packet that it hands out
def xF (l : List UInt8) : Int := if decF l = 0 then decG l else decF l
def pkF (l : List UInt8) : Pk := if xF l = 0 then decPk l else zPk
theorem zPk_cs : zPk.cs (.slice none 0 0) (.slice none 0 0) = zCs := rfl
def DecP (l : List UInt8) (w : World) (e : Ending) (w' : World) : Prop :=
  ∃ A k B m, e = .returned (.tuple #[.agg ((pkF l).cs (.slice A (pkF l).op.length k) (.slice B (pkF l).da.length m)).toArray, .int .i64 (xF l)]) ∧ w'.ownsRow w.heap.size 5 1 (.slice A (pkF l).op.length k) (pkF l).op.length (Lib.byteCells (pkF l).op) ∧ w'.ownsRow w.heap.size 5 1 (.slice B (pkF l).da.length m) (pkF l).da.length (Lib.byteCells (pkF l).da) ∧ (∀ i, (Value.slice A (pkF l).op.length k).ownBlock = some i → (Value.slice B (pkF l).da.length m).ownBlock ≠ some i) ∧ Below w.heap.size w w'
def DecQ (l : List UInt8) (w : World) (e : Ending) (w' : World) : Prop :=
  ∃ o d, e = .returned (.tuple #[.agg ((pkF l).cs o d).toArray, .int .i64 (xF l)]) ∧ IsPk w' (pkF l) o d ∧ Below w.heap.size w w'
theorem pkF_bad {l : List UInt8} (h : xF l ≠ 0) : pkF l = zPk := if_neg h
theorem decAll (w : World) (A : Option Addr) (l : List UInt8) (n c : Nat) (hb : Bytes w A l) (hn : n = l.length) (hc : l.length ≤ c) (hl : l.length ≤ 1000000) :
    Calls Tryd.prog 22 #[.slice A n c] w (DecP l w) := by
  have bad : ∀ x : Int, x ≠ 0 → xF l = x → ∀ e w', e = .returned (.tuple #[.agg zCs.toArray, .int .i64 x]) → Below w.heap.size w w' → DecP l w e w' := by
    intro x h0 hx e w' he hB
    have hp := pkF_bad (l := l) (by rw [hx]; exact h0)
    refine ⟨none, 0, none, 0, ?_, ?_, ?_, fun i hi => by simp [Value.ownBlock] at hi, hB⟩
    · rw [hp, hx, he]; rfl
    · rw [hp]; exact World.ownsRow_nil _ _ _ _
    · rw [hp]; exact World.ownsRow_nil _ _ _ _
  by_cases hx : decF l = 0
  · have hxx : xF l = decG l := if_pos hx
    refine (decC w A l n c hb hn hc hl hx).mono fun e w' h => ?_
    rcases h with ⟨h0, o, d, rfl, ow1, ow2, hap, hB⟩ | ⟨h0, he, hB⟩
    · have hp : pkF l = decPk l := if_pos (by rw [hxx]; exact h0)
      obtain ⟨A1, k1, rfl⟩ := own_slice ow1
      obtain ⟨A2, k2, rfl⟩ := own_slice ow2
      have e1 := (own_rd ow1).1
      have e2 := (own_rd ow2).1
      rw [e1] at ow1
      rw [e2] at ow2
      refine ⟨A1, k1, A2, k2, ?_, ?_, ?_, ?_, hB⟩
      · rw [hp, hxx, h0, e1, e2]
      · rw [hp]; exact ow1
      · rw [hp]; exact ow2
      · rw [hp]; rw [e1, e2] at hap; exact hap
    · exact bad _ h0 hxx e w' he hB
  · have hxx : xF l = decF l := if_neg hx
    exact (decFC w A l n c _ hb hn hc hl rfl hx).mono fun e w' h => bad _ hx hxx e w' h.1 h.2
theorem rdecAll (w : World) (A : Option Addr) (l : List UInt8) (n c : Nat) (hb : Bytes w A l) (hn : n = l.length) (hc : l.length ≤ c) (hl : l.length ≤ 1000000) :
    Calls Tryd.prog 23 #[.slice A n c] w (DecQ l w) := by
  have bad : ∀ x : Int, x ≠ 0 → xF l = x → ∀ e w', e = .returned (.tuple #[.agg zCs.toArray, .int .i64 x]) → Below w.heap.size w w' → DecQ l w e w' := by
    intro x h0 hx e w' he hB
    have hp := pkF_bad (l := l) (by rw [hx]; exact h0)
    refine ⟨.slice none 0 0, .slice none 0 0, ?_, ?_, hB⟩
    · rw [hp, hx, he, zPk_cs]
    · rw [hp]
      exact ⟨⟨none, 0, rfl, Bytes.nil _ _, Nat.le_refl _⟩, ⟨none, 0, rfl, Bytes.nil _ _, Nat.le_refl _⟩, ⟨by decide, by decide⟩, by decide, by decide, by decide, by decide⟩
  by_cases hx : decF l = 0
  · have hxx : xF l = decG l := if_pos hx
    refine (rdecC w A l n c hb hn hc hl hx).mono fun e w' h => ?_
    rcases h with ⟨h0, o, d, rfl, hP, hB⟩ | ⟨h0, he, hB⟩
    · have hp : pkF l = decPk l := if_pos (by rw [hxx]; exact h0)
      exact ⟨o, d, by rw [hp, hxx, h0], by rw [hp]; exact hP, hB⟩
    · exact bad _ h0 hxx e w' he hB
  · have hxx : xF l = decF l := if_neg hx
    exact (rdecFC w A l n c _ hb hn hc hl rfl hx).mono fun e w' h => bad _ hx hxx e w' h.1 h.2
theorem grown_set {w wr : World} {row : Option Nat} {g k : Nat} {u : Value} (h : w.grownBy wr row) (hg : row = some g ∨ w.heap.size ≤ g) : w.grownBy (wr.setCell ⟨g, k, none⟩ u) row := by
  have hs : wr.grownBy (wr.setCell ⟨g, k, none⟩ u) (some g) := setB_
  refine ⟨hs.os.trans h.os, hs.tape.trans h.tape, hs.output.trans h.output, Nat.le_trans h.size hs.size, fun i hi hne => (hs.block i (Nat.lt_of_lt_of_le hi h.size) ?_).trans (h.block i hi hne)⟩
  rcases hg with hg | hg
  · rw [← hg]; exact hne
  · intro e; injection e with e; omega
theorem grown_al {w w1 : World} {row : Option Nat} {ob : Obj} (h : (w.alloc ob).grownBy w1 row) : w.grownBy w1 row := by
  have ha := al (rf w) ob
  exact ⟨h.os.trans ha.os, h.tape.trans ha.tape, h.output.trans ha.output, Nat.le_trans ha.size h.size, fun i hi hne => (h.block i (Nat.lt_of_lt_of_le hi ha.size) hne).trans (ha.block i hi)⟩
set_option maxHeartbeats 400000 in
theorem spoilW (w : World) {base : Nat} (A : Option Addr) (n c : Nat) (xs : List Value) (h : w.ownsRow base 5 1 (.slice A n c) n xs) (hn : n ≤ 1099511627776) (hb : base ≤ w.heap.size) :
    Calls Tryd.prog 25 #[.slice A n c] w fun e w' => e = .returned (.tuple #[]) ∧ w.grownBy w' (Value.slice A n c).ownBlock := by
  go_enter Tryd.func25, Tryd.ntmps25
  go_wp2_with (at_builtin
               refine app_any stB rfl (.tmp 4) (.tmp 5) rfl base _ _ _ rfl (h.alloc _) _ 1 _ [.int .u8 99] rfl (Reads.one (blk_at _ _ _ ?b4)) (by simp [Value.oneCell']) (by omega) (by omega) ?b3 ?_
               case b4 => simp
               case b3 => simp; omega
               intro v1 w1 own1 gr1 at1 bel1
               obtain ⟨g, cap, rfl, hg, hg2, hcap, hcm, cur, BG, hcs, hct⟩ := own_form own1 (by omega))
  have bel : w.grownBy w1 (Value.slice A n c).ownBlock := grown_al gr1
  have hat : Hid ((Value.slice A n c).ownBlock = some g ∨ w.heap.size ≤ g) := by
    rcases at1 with h | h
    · exact .inl h.symm
    · refine .inr ?_
      simp only [Value.ownBlock, Option.some.injEq] at h
      have : w.heap.size ≤ (w.alloc (.cells #[.int .u8 99] 5)).heap.size := by simp
      rw [h]; exact this
  clear own1 gr1 at1 bel1 hct
  go_loopw [3] (fun i wr => ∃ (k : Nat) (cur : Array Value), k ≤ n + 1 ∧ i = .int .i64 k ∧ Blk wr g 5 cur ∧ Hid (cur.size = cap) ∧ Hid (w.grownBy wr (Value.slice A n c).ownBlock)) (fun i _ => n + 1 - (intOf i).toNat)
  case atStart => exact ⟨0, cur, by omega, rfl, BG, hcs, bel⟩
  case round =>
    obtain ⟨k, cur', hk, rfl, BG', HC, hbl⟩ := hrel
    clear BG bel hcs
    by_cases hlt : k < n + 1
    · have hc := BG'.cell k
      rw [Array.getElem?_eq_getElem (by rw [HC.out]; omega)] at hc
      have hf := BG'.frozen k
      have k0 : (0 : Int) ≤ k := by omega
      have k1 : (k : Int) < (n : Int) + 1 := by omega
      go_wp2
      go_roundw
      case rel => exact ⟨k + 1, _, by omega, by go_num, BG'.set_ k _, by rw [Array.size_setIfInBounds]; exact HC, grown_set hbl.out hat.out⟩
      case measure => simp [intOf]; omega
    · go_wp2
      go_end0
      exact ⟨rfl, hbl.out⟩
set_option maxHeartbeats 3200000 in
set_option maxRecDepth 10000 in
theorem ipDecodes_walk (w : World) (A : Option Addr) (l : List UInt8) (c : Nat) (hb : Bytes w A l) (hc : l.length ≤ c) (hl : l.length ≤ 9223372036854775807) (hE : Env w) :
    Calls Tryd.prog 7 #[.slice A l.length c] w fun e w' => e = .returned (.bool true) ∧ Below w.heap.size w w' := by
  have HE := Lib.hid hE; clear hE
  by_cases h2 : 70000 < (l.length : Int)
  · go_enter Tryd.func7, Tryd.ntmps7
    go_wp2
    go_ret
    exact ⟨rfl, rf w⟩
  · have hl7 : l.length ≤ 70000 := by omega
    go_enter Tryd.func7, Tryd.ntmps7
    go_wp2_with fail
    refine (roomy _ A l _ c hb rfl (by omega)).mono ?_
    rintro e w1 ⟨gb, cap, rfl, hg, hr, hb1⟩
    have i1 : (l.length : Int) ≤ cap := by have := hr.1; omega
    have i2 : l.length ≤ cap := by have := hr.1; omega
    go_wp2_with fail
    refine (decAll w1 _ l _ cap hr.bytes rfl i2 (by omega)).mono ?_
    rintro e w2 ⟨A1, k1, B1, m1, rfl, ow1, ow2, hap, b2⟩
    obtain ⟨x, hx⟩ : ∃ x, x = xF l := ⟨_, rfl⟩
    obtain ⟨p, hp⟩ : ∃ p, p = pkF l := ⟨_, rfl⟩
    obtain ⟨qc, hqc⟩ : ∃ qc : List Value, qc = p.cs (.slice A1 p.op.length k1) (.slice B1 p.da.length m1) := ⟨_, rfl⟩
    rw [← hp] at ow1 ow2 hap
    have APT := Lib.hid hap
    have OW2L := Lib.hid (fun i hi => (ow2.lt i hi).2)
    have OW1L := Lib.hid (fun i hi => (ow1.lt i hi).2)
    clear hap
    rw [← hp, ← hx, ← hqc]
    have HZ2 : Hid (Blk (w2.alloc (.cells zCs.toArray 26)) w2.heap.size 26 zCs.toArray) := Blk.new w2 _ _
    have hq1 : qc.toArray.all (·.oneCell') = true := by rw [hqc]; simp [Pk.cs, Value.oneCell']
    have hq2 : qc.toArray.size = 11 := by rw [hqc]; rfl
    have hq3 : (Tryd.prog.info? 26).map (·.size) = some qc.toArray.size := by rw [hq2]; kernel_rfl
    have hq4 : zCs.toArray.size = qc.toArray.size := by rw [hq2]; rfl
    have HX := Lib.hid hx
    have HP := Lib.hid hp
    have HQ := Lib.hid hqc
    clear hx hp hqc
    have bw2 : Below w.heap.size w w2 := nx hb1 b2
    go_wp2_with (refine wpList_store_row rfl 26 (.tmp 4) (.tmp 19) rfl _ qc.toArray rfl rfl _ _ HZ2.out hq3 hq4 hq1 ?_)
    have b3 : Below w2.heap.size w2 ((w2.alloc (.cells #[.int .i64 0, .int .i64 0, .bool false, .bool false, .int .i64 0, .int .i64 0, .int .i64 0, .int .u32 0, .int .u32 0, .slice none 0 0, .slice none 0 0] 26)).setRow w2.heap.size qc.toArray) := below_setRow (al (rf w2) _) (Nat.le_refl _) _
    have Q3 : Blk ((w2.alloc (.cells #[.int .i64 0, .int .i64 0, .bool false, .bool false, .int .i64 0, .int .i64 0, .int .i64 0, .int .u32 0, .int .u32 0, .slice none 0 0, .slice none 0 0] 26)).setRow w2.heap.size qc.toArray) w2.heap.size 26 qc.toArray := setRow_heap _ _ _ _ _ _ HZ2.out
    generalize hw3 : (w2.alloc (.cells #[.int .i64 0, .int .i64 0, .bool false, .bool false, .int .i64 0, .int .i64 0, .int .i64 0, .int .u32 0, .int .u32 0, .slice none 0 0, .slice none 0 0] 26)).setRow w2.heap.size qc.toArray = w3 at b3 Q3 ⊢
    clear hw3 HZ2
    have HQ3 := Lib.hid Q3
    have HR3 := Lib.hid ((hr.nx b2).nx b3)
    have HGB := Lib.hid hr.2.2.1
    have OW1 := Lib.hid (own_nx ow1 b3)
    have OW2 := Lib.hid (own_nx ow2 b3)
    have B3 := Lib.hid (nx bw2 b3)
    have HB := Lib.hid hb
    have z12 := b2.size
    have HZ1 := Lib.hid hb1.size
    have Z23 := Lib.hid b3.size
    clear b3 Q3 ow1 ow2 hr hb bw2
    refine (rdecAll w3 A l _ c (HB.out.nx B3.out) rfl hc (by omega)).mono ?_
    rintro e w4 ⟨o2, d2, rfl, hP4, b4⟩
    have hP4' := hP4
    obtain ⟨⟨A4, k4, rfl, _⟩, ⟨B4, m4, rfl, _⟩, _⟩ := hP4'
    rw [← HP.out, ← HX.out]
    rw [← HP.out] at hP4
    obtain ⟨rc, hrc⟩ : ∃ rc : List Value, rc = p.cs (.slice A4 p.op.length k4) (.slice B4 p.da.length m4) := ⟨_, rfl⟩
    have hs1 : rc.toArray.all (·.oneCell') = true := by
      rw [hrc]
      simp [Pk.cs, Value.oneCell']
    have hs2 : rc.toArray.size = 11 := by rw [hrc]; rfl
    have hs3 : (Tryd.prog.info? 26).map (·.size) = some rc.toArray.size := by rw [hs2]; kernel_rfl
    have hs4 : zCs.toArray.size = rc.toArray.size := by rw [hs2]; rfl
    have HRC := Lib.hid hrc
    rw [← hrc]
    clear hrc
    have HZ4 : Hid (Blk (w4.alloc (.cells #[.int .i64 0, .int .i64 0, .bool false, .bool false, .int .i64 0, .int .i64 0, .int .i64 0, .int .u32 0, .int .u32 0, .slice none 0 0, .slice none 0 0] 26)) w4.heap.size 26 zCs.toArray) := Blk.new w4 _ _
    have HK4 : Hid (Blk w4 w2.heap.size 26 (p.cs (.slice A1 p.op.length k1) (.slice B1 p.da.length m1)).toArray) := by
      show Blk _ _ _ _
      rw [← HQ.out]; exact HQ3.out.nx b4
    have HR4 := Lib.hid (HR3.out.nx b4)
    have OW14 := Lib.hid (own_nx OW1.out b4)
    have OW24 := Lib.hid (own_nx OW2.out b4)
    have B4' := Lib.hid (nx B3.out b4)
    have IP4 := Lib.hid hP4
    have Z34 := Lib.hid b4.size
    have hx0 : ((x : Int) != x) = false := by simp
    have hrn : rc.length = 11 := by simpa using hs2
    have HFIT : Hid (0 + rc.length ≤ zCs.length) := by show _ ≤ _; rw [hrn]; decide
    have HSZ : Hid ((Tryd.prog.info? 26).map (·.size) = some rc.length) := by show _ = _; rw [hrn]; kernel_rfl
    have HONE : Hid (∀ v ∈ rc, v.oneCell' = true) := by
      show ∀ v ∈ rc, _
      rw [HRC.out]
      intro v hv
      simp only [Pk.cs, List.mem_cons, List.not_mem_nil, or_false] at hv
      rcases hv with rfl | rfl | rfl | rfl | rfl | rfl | rfl | rfl | rfl | rfl | rfl <;> rfl
    have hsp : splice zCs 0 rc = rc := by
      have h1 : zCs.length = 11 := rfl
      unfold splice
      rw [Nat.zero_add, hrn, List.take_zero, List.nil_append, List.drop_eq_nil_of_le (by omega), List.append_nil]
    have HSP := Lib.hid hsp
    clear b4 hP4 HQ3 HR3 OW1 OW2 hs1 hs2 hs3 hs4 hrn hsp
    go_wp2_with (first
      | ((with_reducible refine wpList_store_blk rfl 26 6 24 rfl w4.heap.size 0 rc (by kernel_rfl) (by kernel_rfl) 26 zCs HZ4.out HFIT.out HSZ.out HONE.out ?_); intro w5 hB5 g5
         have b5 : Below w4.heap.size w4 w5 := (al (rf w4) _).trans (below_only g5 (Nat.le_refl _) (by simp))
         have KP5 := Lib.hid (HK4.out.nx b5)
         have KR5 : Hid (Blk w5 w4.heap.size 26 (p.cs (.slice A4 p.op.length k4) (.slice B4 p.da.length m4)).toArray) := Lib.hid (show Blk w5 w4.heap.size 26 (p.cs (.slice A4 p.op.length k4) (.slice B4 p.da.length m4)).toArray by rw [← HRC.out, ← HSP.out]; exact hB5)
         have kk0 : w5.cell? ⟨w2.heap.size, 0, none⟩ = some (.int .i64 p.sv) := KP5.out.cell 0
         have kk1 : w5.cell? ⟨w2.heap.size, 1, none⟩ = some (.int .i64 p.id) := KP5.out.cell 1
         have kk2 : w5.cell? ⟨w2.heap.size, 2, none⟩ = some (.bool p.wh) := KP5.out.cell 2
         have kk3 : w5.cell? ⟨w2.heap.size, 3, none⟩ = some (.bool p.mo) := KP5.out.cell 3
         have kk4 : w5.cell? ⟨w2.heap.size, 4, none⟩ = some (.int .i64 p.off) := KP5.out.cell 4
         have kk5 : w5.cell? ⟨w2.heap.size, 5, none⟩ = some (.int .i64 p.lf) := KP5.out.cell 5
         have kk6 : w5.cell? ⟨w2.heap.size, 6, none⟩ = some (.int .i64 p.pr) := KP5.out.cell 6
         have kk7 : w5.cell? ⟨w2.heap.size, 7, none⟩ = some (.int .u32 p.fr) := KP5.out.cell 7
         have kk8 : w5.cell? ⟨w2.heap.size, 8, none⟩ = some (.int .u32 p.to_) := KP5.out.cell 8
         have kk9 : w5.cell? ⟨w2.heap.size, 9, none⟩ = some (.slice A1 p.op.length k1) := KP5.out.cell 9
         have kk10 : w5.cell? ⟨w2.heap.size, 10, none⟩ = some (.slice B1 p.da.length m1) := KP5.out.cell 10
         have mm0 : w5.cell? ⟨w4.heap.size, 0, none⟩ = some (.int .i64 p.sv) := KR5.out.cell 0
         have mm1 : w5.cell? ⟨w4.heap.size, 1, none⟩ = some (.int .i64 p.id) := KR5.out.cell 1
         have mm2 : w5.cell? ⟨w4.heap.size, 2, none⟩ = some (.bool p.wh) := KR5.out.cell 2
         have mm3 : w5.cell? ⟨w4.heap.size, 3, none⟩ = some (.bool p.mo) := KR5.out.cell 3
         have mm4 : w5.cell? ⟨w4.heap.size, 4, none⟩ = some (.int .i64 p.off) := KR5.out.cell 4
         have mm5 : w5.cell? ⟨w4.heap.size, 5, none⟩ = some (.int .i64 p.lf) := KR5.out.cell 5
         have mm6 : w5.cell? ⟨w4.heap.size, 6, none⟩ = some (.int .i64 p.pr) := KR5.out.cell 6
         have mm7 : w5.cell? ⟨w4.heap.size, 7, none⟩ = some (.int .u32 p.fr) := KR5.out.cell 7
         have mm8 : w5.cell? ⟨w4.heap.size, 8, none⟩ = some (.int .u32 p.to_) := KR5.out.cell 8
         have mm9 : w5.cell? ⟨w4.heap.size, 9, none⟩ = some (.slice A4 p.op.length k4) := KR5.out.cell 9
         have mm10 : w5.cell? ⟨w4.heap.size, 10, none⟩ = some (.slice B4 p.da.length m4) := KR5.out.cell 10))
    have HR5 := Lib.hid (HR4.out.nx b5)
    have OW15 := Lib.hid (own_nx OW14.out b5)
    have OW25 := Lib.hid (own_nx OW24.out b5)
    have B5 := Lib.hid (nx B4'.out b5)
    have IP5 := Lib.hid (IP4.out.nx b5)
    have Z45 := Lib.hid (Nat.le_trans Z34.out b5.size)
    have HPK : Hid (∀ W, Below w5.heap.size w5 W → Calls Tryd.prog 24 #[.agg #[.int .i64 p.sv, .int .i64 p.id, .bool p.wh, .bool p.mo, .int .i64 p.off, .int .i64 p.lf, .int .i64 p.pr, .int .u32 p.fr, .int .u32 p.to_, .slice A1 p.op.length k1, .slice B1 p.da.length m1], .agg #[.int .i64 p.sv, .int .i64 p.id, .bool p.wh, .bool p.mo, .int .i64 p.off, .int .i64 p.lf, .int .i64 p.pr, .int .u32 p.fr, .int .u32 p.to_, .slice A4 p.op.length k4, .slice B4 p.da.length m4]] W fun e w' => e = .returned (.bool true) ∧ Below W.heap.size W w') := fun W k => by
      have hI := IP5.out.nx k
      exact packE W p _ _ _ _ ⟨⟨A1, k1, rfl, (own_rd (own_nx OW15.out k)).2.1, (own_rd OW15.out).2.2⟩, ⟨B1, m1, rfl, (own_rd (own_nx OW25.out k)).2.1, (own_rd OW25.out).2.2⟩, hI.off, hI.fr, hI.to_, hI.ol, hI.dl⟩ hI
    refine (HPK.out _ (rf w5)).mono ?_
    rintro e6 w6 ⟨rfl, b6⟩
    have HR6 := Lib.hid (HR5.out.nx b6)
    have K6 := Lib.hid (KP5.out.nx b6)
    clear kk0 kk1 kk2 kk3 kk4 kk5 kk6 kk7 kk8 kk9 kk10 mm0 mm1 mm2 mm3 mm4 mm5 mm6 mm7 mm8 mm9 mm10
    have B6 := Lib.hid (nx B5.out b6)
    have OW16 := Lib.hid (own_nx OW15.out b6)
    have OW26 := Lib.hid (own_nx OW25.out b6)
    have z56 := b6.size
    clear b6
    go_wp2_with fail
    refine (stands _ A l _ gb cap c HR6.out (HB.out.nx B6.out) rfl (by omega)).mono ?_
    rintro e7 w7 ⟨rfl, b7⟩
    have HR7 := Lib.hid (HR6.out.nx b7)
    have K7 := Lib.hid (K6.out.nx b7)
    have B7 := Lib.hid (nx B6.out b7)
    have OW17 := Lib.hid (own_nx OW16.out b7)
    have OW27 := Lib.hid (own_nx OW26.out b7)
    have z67 := b7.size
    have x9 : w7.cell? ⟨w2.heap.size, 9, none⟩ = some (.slice A1 p.op.length k1) := K7.out.cell 9
    have x10 : w7.cell? ⟨w2.heap.size, 10, none⟩ = some (.slice B1 p.da.length m1) := K7.out.cell 10
    clear b7
    go_wp2_with fail
    have hdl : p.da.length ≤ 70000 := IP5.out.dl
    have hol : p.op.length ≤ 4000 := IP5.out.ol
    have zz1 : w1.heap.size ≤ w7.heap.size := Nat.le_trans z12 (Nat.le_trans Z23.out (Nat.le_trans Z45.out (Nat.le_trans z56 z67)))
    refine (spoilW w7 B1 _ m1 _ OW27.out (by omega) zz1).mono ?_
    rintro e8 w8 ⟨rfl, g8⟩
    have hgb : gb < w1.heap.size := HGB.out
    have b8 : Below w1.heap.size w7 w8 := (rf w7 |>.mono zz1).grown g8 zz1 (fun k hk => (OW27.out.lt k hk).1)
    have HR8 := Lib.hid (HR7.out.below b8 hgb)
    have B8 := Lib.hid (B7.out.trans (b8.mono HZ1.out))
    have OW28 : Hid (w8.ownsRow w1.heap.size 5 1 (.slice A1 p.op.length k1) p.op.length (Lib.byteCells p.op)) := OW17.out.kept g8 (by
      cases hh : (Value.slice A1 p.op.length k1).ownBlock with
      | none => exact .inl rfl
      | some i => exact .inr (fun e => APT.out i hh e.symm))
    have x8 : w8.cell? ⟨w2.heap.size, 9, none⟩ = some (.slice A1 p.op.length k1) := (World.cell?_of_block (g8.block _ K7.out.lt (by
      intro e
      have := OW2L.out _ e.symm
      exact Nat.lt_irrefl _ this))).trans x9
    have z78 := g8.size
    clear g8 b8 x9 x10
    go_wp2_with fail
    refine (spoilW w8 A1 _ k1 _ OW28.out (by omega) (by omega)).mono ?_
    rintro e9 w9 ⟨rfl, g9⟩
    have b9 : Below w1.heap.size w8 w9 := (rf w8 |>.mono (by omega)).grown g9 (by omega) (fun k hk => (OW28.out.lt k hk).1)
    have HR9 := Lib.hid (HR8.out.below b9 hgb)
    have B9 := Lib.hid (B8.out.trans (b9.mono HZ1.out))
    clear g9 b9
    go_wp2_with fail
    refine (stands _ A l _ gb cap c HR9.out (HB.out.nx B9.out) rfl (by omega)).mono ?_
    rintro e10 w10 ⟨rfl, b10⟩
    have B10 := Lib.hid (nx B9.out b10)
    clear b10
    go_wp2_with fail
    refine (known w10 (HE.out.nx B10.out)).mono ?_
    rintro e11 w11 ⟨rfl, b11⟩
    go_wp2
    go_ret
    exact ⟨rfl, nx B10.out b11⟩
end Go.Proofs.YthjpdaflgphbbaaDoor
