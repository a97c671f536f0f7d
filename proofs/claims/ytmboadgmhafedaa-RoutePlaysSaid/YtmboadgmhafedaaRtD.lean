/-
  Routes: a route added along a chain; the route that an address goes by.
-/
import Derived.Test.YtmboadgmhafedaaRtC
set_option linter.unusedVariables false
namespace Go.Proofs.Ytmboadgmhafedaa
open Go.RowKit

def AddP (w : World) (B a d : Nat) (g : Nat → Nat) (rs : Nat → Value) (n : Int) (Kp : List (Nat × Array Value)) (net b via : Nat) (m : Int) (e : Ending) (w' : World) : Prop :=
  ∃ (g' : Nat → Nat) (rs' : Nat → Value) (h cap : Nat) (cs : Array Value), e = .returned (.int .i64 0) ∧ Ch w' B a b g' rs' (n + 1) ((h, cs) :: Kp) ∧ g' 0 = g 0 ∧ (∀ j, j ≤ d → rs' j = rs j) ∧ (∀ j, d < j → j < b → rs' j = nilS) ∧
    rs' b = .slice (some ⟨h, 0, none⟩) 1 cap ∧ 1 ≤ cap ∧ cs.toList.take 4 = [.int .u32 net, .int .i64 b, .int .u32 via, .int .i64 m] ∧ Below B w w'
theorem Ch.more {w : World} {B a d : Nat} {g : Nat → Nat} {rs : Nat → Value} {n : Int} {Kp : List (Nat × Array Value)} (h : Ch w B a d g rs n Kp) {x : Nat} {cs : Array Value} (hb : Blk w x 36 cs) : Ch w B a d g rs n ((x, cs) :: Kp) :=
  ⟨h.root, h.node, h.inj, by intro p hp; rcases List.mem_cons.1 hp with e | hp; (rw [e]; exact hb); exact h.kp p hp, h.lo, h.hB⟩
theorem Ch.tail {w : World} {B a d : Nat} {g : Nat → Nat} {rs : Nat → Value} {n : Int} {p : Nat × Array Value} {Kp : List (Nat × Array Value)} (h : Ch w B a d g rs n (p :: Kp)) : Ch w B a d g rs n Kp :=
  ⟨h.root, h.node, h.inj, fun q hq => h.kp q (List.mem_cons_of_mem _ hq), h.lo, h.hB⟩
set_option maxHeartbeats 1600000 in
theorem addC (w : World) (B a d : Nat) (g : Nat → Nat) (rs : Nat → Value) (n : Int) (Kp : List (Nat × Array Value)) (h : Ch w B a d g rs n Kp) (net b via : Nat) (m : Int) (hnet : net < 4294967296) (hb : b ≤ 32) (hdb : d < b) (hbits : ∀ i, i < b → bt net i = bt a i)
    (hm : ∀ w, Calls Try.prog 18 #[.agg #[.int .u32 net, .int .i64 b, .int .u32 via, .int .i64 m]] w fun e w' => e = .returned (.bool true) ∧ Below w.heap.size w w') (hn0 : 0 ≤ n) (hn1 : n < 64) :
    Calls Try.prog 9 #[.pointer (some ⟨g 0, 0, none⟩), .agg #[.int .u32 net, .int .i64 b, .int .u32 via, .int .i64 m]] w (AddP w B a d g rs n Kp net b via m) := by
  have X0 := Lib.hid (Blk.new w 36 #[.int .u32 net, .int .i64 b, .int .u32 via, .int .i64 m])
  have B0 := Lib.hid (al (rf w) (.cells #[.int .u32 net, .int .i64 b, .int .u32 via, .int .i64 m] 36))
  have HC0 := Lib.hid (h.nx B0.out)
  have BW : Hid (Below B w (w.alloc (.cells #[.int .u32 net, .int .i64 b, .int .u32 via, .int .i64 m] 36))) := B0.out.mono h.hB
  have HBT := Lib.hid hbits
  have HMY := Lib.hid hm
  have HNE : Hid (∀ j, j ≤ d → w.heap.size ≠ g j) := fun j hj => Nat.ne_of_gt (h.lt hj)
  clear h hbits hm
  go_enter Try.func9, Try.ntmps9
  go_wp2_with fail
  refine (HMY.out _).mono ?_
  rintro e w1 ⟨rfl, b1⟩
  have X1 := Lib.hid (X0.out.nx b1)
  have HC1 := Lib.hid (HC0.out.nx b1)
  have BW1 := Lib.hid (BW.out.trans (b1.mono HC0.out.hB))
  clear b1
  have c0 := X1.out.cell 0
  have c1 := X1.out.cell 1
  have c2 := X1.out.cell 2
  have c3 := X1.out.cell 3
  simp only [List.getElem?_toArray, List.getElem?_cons_zero, List.getElem?_cons_succ] at c0 c1 c2 c3
  go_wp2_with fail
  refine (atF w1 B a d g rs n Kp HC1.out net b via m hnet hb hdb HBT.out).mono ?_
  rintro e w2 ⟨rfl, b2⟩
  have X2 := Lib.hid (X1.out.nx b2)
  have HC2 := Lib.hid (HC1.out.nx b2)
  have BW2 := Lib.hid (BW1.out.trans (b2.mono HC1.out.hB))
  clear b2 c0 c1 c2 c3
  have c0 := X2.out.cell 0
  have c1 := X2.out.cell 1
  have c2 := X2.out.cell 2
  have c3 := X2.out.cell 3
  have cn := HC2.out.cn
  simp only [List.getElem?_toArray, List.getElem?_cons_zero, List.getElem?_cons_succ] at c0 c1 c2 c3
  go_wp2_with fail
  refine (atT w2 B a d g rs n ((w.heap.size, #[.int .u32 net, .int .i64 b, .int .u32 via, .int .i64 m]) :: Kp) (HC2.out.more X2.out) net b via m hnet hb hdb HBT.out).mono ?_
  rintro e w3 ⟨g3, rs3, rfl, hc3, hg3, hr3, b3⟩
  have HC3 := Lib.hid hc3
  have HG3 := Lib.hid hg3
  have HR3 := Lib.hid hr3
  have BW3 := Lib.hid (BW2.out.trans b3)
  have y3 : w3.cell? ⟨g3 b, 0, none⟩ = some (.slice none 0 0) := by
    have h1 := hc3.cell0 (Nat.le_refl b)
    rw [hr3 b hdb (Nat.le_refl b)] at h1
    exact h1
  have YN := Lib.hid (hr3 b hdb (Nat.le_refl b))
  have E0 := Lib.hid (hg3 0 (Nat.zero_le _)).1
  clear hc3 hg3 hr3 b3 c0 c1 c2 c3 cn
  have X3 := Lib.hid (HC3.out.kp _ (List.mem_cons_self ..))
  have c0 := X3.out.cell 0
  have c1 := X3.out.cell 1
  have c2 := X3.out.cell 2
  have c3 := X3.out.cell 3
  simp only [List.getElem?_toArray, List.getElem?_cons_zero, List.getElem?_cons_succ] at c0 c1 c2 c3
  go_wp2_with fail
  refine (find0 w3 (g3 b) net b via m y3).mono ?_
  rintro e w4 ⟨rfl, b4⟩
  have X4 := Lib.hid (X3.out.nx b4)
  have HC4 := Lib.hid (HC3.out.nx b4)
  have BW4 := Lib.hid (BW3.out.trans (b4.mono HC3.out.hB))
  clear b4 c0 c1 c2 c3 y3
  have KK : Hid (∀ ws, Below w4.heap.size w4 ws → (ws.cell? ⟨w.heap.size, 0, none⟩ = some (.int .u32 net) ∧ ws.cell? ⟨w.heap.size, 1, none⟩ = some (.int .i64 b) ∧ ws.cell? ⟨w.heap.size, 2, none⟩ = some (.int .u32 via) ∧ ws.cell? ⟨w.heap.size, 3, none⟩ = some (.int .i64 m))) := fun ws k => by
    have h2 := X4.out.nx k
    exact ⟨h2.cell 0, h2.cell 1, h2.cell 2, h2.cell 3⟩
  have y4d : w4.drew.cell? ⟨g3 b, 0, none⟩ = some (.slice none 0 0) := by
    have h1 := HC4.out.cell0 (Nat.le_refl b)
    rw [YN.out] at h1
    exact h1
  have y4a : ∀ o, (w4.alloc o).cell? ⟨g3 b, 0, none⟩ = some (.slice none 0 0) := fun o => by
    have h1 := (HC4.out.nx (al (rf w4) o)).cell0 (Nat.le_refl b)
    rw [YN.out] at h1
    exact h1
  have KS : Hid (∀ ws, Below w4.heap.size w4 ws → ∀ v, ((ws.setCell ⟨g3 b, 0, none⟩ v).cell? ⟨w.heap.size, 0, none⟩ = some (.int .u32 net) ∧ (ws.setCell ⟨g3 b, 0, none⟩ v).cell? ⟨w.heap.size, 1, none⟩ = some (.int .i64 b) ∧ (ws.setCell ⟨g3 b, 0, none⟩ v).cell? ⟨w.heap.size, 2, none⟩ = some (.int .u32 via) ∧ (ws.setCell ⟨g3 b, 0, none⟩ v).cell? ⟨w.heap.size, 3, none⟩ = some (.int .i64 m))) := fun ws k v => by
    have h2 := (X4.out.nx k).far (p := ⟨g3 b, 0, none⟩) (HC4.out.ne (Nat.le_refl b) X4.out) v
    exact ⟨h2.cell 0, h2.cell 1, h2.cell 2, h2.cell 3⟩
  have YW : Hid (∀ ws, Below w4.heap.size w4 ws → ws.cell? ⟨g3 b, 0, none⟩ = some (.slice none 0 0)) := fun ws k => by
    have h1 := (HC4.out.nx k).cell0 (Nat.le_refl b)
    rw [YN.out] at h1
    exact h1
  have c0d : w4.drew.cell? ⟨w.heap.size, 0, none⟩ = some (.int .u32 net) := X4.out.cell 0
  have c1d : w4.drew.cell? ⟨w.heap.size, 1, none⟩ = some (.int .i64 b) := X4.out.cell 1
  have c2d : w4.drew.cell? ⟨w.heap.size, 2, none⟩ = some (.int .u32 via) := X4.out.cell 2
  have c3d : w4.drew.cell? ⟨w.heap.size, 3, none⟩ = some (.int .i64 m) := X4.out.cell 3
  go_wp2
  go_region_with (first
      | (go_at_call 21; refine (ins0 _ w4.drew.heap.size net b via m (Blk.new w4.drew _ _)).mono ?_; rintro e w5 ⟨gi, cap, cs, rfl, hgi, htk, hcap, hgb, b5⟩
         have B5 : Below w4.heap.size w4 w5 := nx (al (rf w4).drew _) b5
         have y5 : w5.cell? ⟨g3 b, 0, none⟩ = some (.slice none 0 0) := YW.out _ B5
         have f5 : w5.frozen? ⟨g3 b, 0, none⟩ = false := (HC4.out.nx B5).fro (Nat.le_refl b) 0)
      | fail)
  all_goals
    have HC6 : Hid (Ch (w5.setCell ⟨g3 b, 0, none⟩ (.slice (some ⟨gi, 0, none⟩) 1 cap)) B a b g3 (up rs3 b (.slice (some ⟨gi, 0, none⟩) 1 cap)) n ((gi, cs) :: Kp)) := ((HC4.out.nx B5).tail.more hgi).setr _ (Nat.le_refl b)
    have BW6 : Hid (Below B w (w5.setCell ⟨g3 b, 0, none⟩ (.slice (some ⟨gi, 0, none⟩) 1 cap))) := (BW4.out.trans (B5.mono HC4.out.hB)).setCell (HC4.out.lo b (Nat.le_refl b)) _
    have HTK := Lib.hid htk
    clear y5 f5 c0d c1d c2d c3d y4d y4a hgi hgb b5 B5 htk
    generalize w5.setCell ⟨g3 b, 0, none⟩ (.slice (some ⟨gi, 0, none⟩) 1 cap) = w6 at HC6 BW6 ⊢
    have cn6 := HC6.out.cn
    have f6 := HC6.out.fro (Nat.zero_le b) 3
    have HC7 := HC6.out.setn (n + 1)
    rw [E0.out] at cn6 f6 HC7
    have HC8 := Lib.hid HC7
    have BW8 : Hid (Below B w (w6.setCell ⟨g 0, 3, none⟩ (.int .i64 (n + 1)))) := BW6.out.setCell (by rw [← E0.out]; exact HC6.out.lo 0 (Nat.zero_le _)) _
    clear HC7
    go_wp2
    go_ret
    exact ⟨g3, up rs3 b (.slice (some ⟨gi, 0, none⟩) 1 cap), gi, cap, cs, rfl, HC8.out, E0.out, fun j hj => (up_ne (by omega)).trans (HG3.out j hj).2, fun j h1 h2 => (up_ne (by omega)).trans (HR3.out j h1 (by omega)), up_at, hcap, HTK.out, BW8.out⟩
end Go.Proofs.Ytmboadgmhafedaa
