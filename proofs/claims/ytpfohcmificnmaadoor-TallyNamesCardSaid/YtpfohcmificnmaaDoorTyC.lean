/-
  Tally: the board's methods.
-/
import Derived.Test.YtpfohcmificnmaaDoorTyB
set_option linter.unusedVariables false
namespace Go.Proofs.YtpfohcmificnmaaDoor
open Go.RowKit Go.Maps

def IsF (w : World) (B b : Nat) (cs : List Int) : Prop :=
  cs.length = 17 ∧ B ≤ b ∧ ∃ mb g c, Blk w b 44 (bCt cs 1 0 (.map (some mb)) (.slice (some ⟨g, 0, none⟩) 17 c)).toArray ∧ Full w B b mb g c
theorem IsF.b {w : World} {B b : Nat} {cs : List Int} (h : IsF w B b cs) : IsB w B b cs := ⟨h.1, h.2.1, .inr h.2.2⟩
theorem tabFirst (w : World) (B b : Nat) (cs : List Int) (hcs : cs.length = 17) (hb : B ≤ b) (hm : MaxL w) (h0 : 0 < b) (hB : B ≤ w.heap.size)
    (h : Blk w b 44 (bCt cs 0 0 (.map none) (.slice none 0 0)).toArray) :
    Calls Tryd.prog 32 #[.pointer (some ⟨b, 17, none⟩), .func (.func 33) #[] #[.pointer (some ⟨w.heap.size, 0, none⟩)]] (w.alloc (.cells #[.pointer (some ⟨b, 0, none⟩)] 24)) fun e w' => e = .returned (.tuple #[]) ∧ IsF w' B b cs ∧ w.grownBy w' (some b) := by
  have hlt := h.lt
  have h1 := h.alloc (.cells #[.pointer (some ⟨b, 0, none⟩)] 24)
  have h2 := h1.setL 18 (.int .i32 1) (bCt_s18 hcs 1)
  have hp : ((w.alloc (.cells #[.pointer (some ⟨b, 0, none⟩)] 24)).setCell ⟨b, 18, none⟩ (.int .i32 1)).cell? ⟨w.heap.size, 0, none⟩ = some (.pointer (some ⟨b, 0, none⟩)) := by
    rw [World.cell?_setCell_other _ ⟨b, 18, none⟩ ⟨w.heap.size, 0, none⟩ _ (fun e => by injection e with e; omega)]
    exact (Blk.new w _ _).cell 0
  have g1 : w.grownBy ((w.alloc (.cells #[.pointer (some ⟨b, 0, none⟩)] 24)).setCell ⟨b, 18, none⟩ (.int .i32 1)) (some b) := only_setCell (p := ⟨b, 18, none⟩) (only_alloc (World.grownBy.refl _ _) _) (.inl rfl) _
  have hf := tabFC _ B b cs w.heap.size hcs (hm.only g1 h0) hp (by omega) h0 h2 (Nat.le_trans hB g1.size)
  refine (onceFirst b 17 ⟨w.heap.size, 0, none⟩ (fun w2 => ∃ mb g, Blk w2 b 44 (bCt cs 0 1 (.map (some mb)) (.slice (some ⟨g, 0, none⟩) 17 17)).toArray ∧ Full w2 B b mb g 17 ∧ w.grownBy w2 (some b)) _ (h1.cellL 17 (bCt_17 hcs)) (h1.cellL 18 (bCt_18 hcs)) (h1.frozen 17) (h1.frozen 18) (hf.mono ?_)).mono ?_
  · rintro e w2 ⟨rfl, mb, g, k1, k2, k3⟩
    exact ⟨rfl, ⟨k1.cellL 17 (bCt_17 hcs), k1.cellL 18 (bCt_18 hcs), k1.frozen 17, k1.frozen 18⟩, mb, g, k1, k2, only_trans g1 k3⟩
  · rintro e w' ⟨rfl, w2, ⟨mb, g, k1, k2, k3⟩, rfl⟩
    have q1 := (k1.drew.setL 17 (.int .u32 1) (bCt_s17 hcs 1)).setL 18 (.int .i32 0) (bCt_s18 hcs 0)
    have q2 : w2.grownBy ((w2.drew.setCell ⟨b, 17, none⟩ (.int .u32 1)).setCell ⟨b, 18, none⟩ (.int .i32 0)) (some b) := only_trans (only_trans (only_drew (World.grownBy.refl _ _)) setB) setB
    exact ⟨rfl, ⟨hcs, hb, mb, g, 17, q1, k2.only q2⟩, only_trans k3 q2⟩
theorem tabC (w : World) (B b : Nat) (cs : List Int) (h : IsB w B b cs) (hm : MaxL w) (h0 : 0 < b) (hB : B ≤ w.heap.size) :
    Calls Tryd.prog 24 #[.pointer (some ⟨b, 0, none⟩)] w fun e w' => e = .returned (.tuple #[]) ∧ IsF w' B b cs ∧ w.grownBy w' (some b) := by
  have hmf : ∀ (fn : Fn) (first cap : Array Value) (w : World), (Instr.makeFunc fn first cap).run Tryd.prog w = .ok (.func fn first cap) w := fun _ _ _ _ => rfl
  obtain ⟨hcs, hb, h | ⟨mb, g, c, h, f⟩⟩ := h
  · have HT := Lib.hid (tabFirst w B b cs hcs hb hm h0 hB h)
    clear hm
    go_enter Tryd.func24, Tryd.ntmps24
    go_wp2_with fail
    refine HT.out.mono ?_
    rintro e w1 ⟨rfl, h1, h2⟩
    go_wp2
    go_end0
    exact ⟨rfl, h1, h2⟩
  · have HB := Lib.hid h
    have HF := Lib.hid f
    have HC := Lib.hid hcs
    have h17 := Lib.hid ((h.alloc (.cells #[.pointer (some ⟨b, 0, none⟩)] 24)).cellL 17 (bCt_17 (d := 1) (st := 0) hcs))
    clear hm h f hcs
    go_enter Tryd.func24, Tryd.ntmps24
    go_wp2_with fail
    refine (onceDone ⟨b, 17, none⟩ _ _ h17.out).mono ?_
    rintro e w1 ⟨rfl, rfl⟩
    go_wp2
    go_end0
    exact ⟨rfl, ⟨HC.out, hb, mb, g, c, HB.out.alloc _, HF.out.nx (al (rf w) _)⟩, only_alloc (World.grownBy.refl _ _) _⟩
theorem isC (n : Int) (w : World) (x : Bool) (hx : (decide (0 ≤ n) && decide (n < 17)) = x) : Calls Tryd.prog 21 #[.int .i64 n] w fun e w' => e = .returned (.bool x) ∧ w' = w := by
  subst hx
  by_cases h1 : 0 ≤ n <;> by_cases h2 : n < 17 <;> simp only [h1, h2, decide_true, decide_false, Bool.and_self, Bool.and_true, Bool.and_false]
  all_goals
    go_enter Tryd.func21, Tryd.ntmps21
    go_wp2
    go_ret
    exact ⟨rfl, rfl⟩
-- a name
theorem nameC (w : World) (B b : Nat) (cs : List Int) (n : Nat) (hn : n < 17) (h : IsB w B b cs) (hm : MaxL w) (h0 : 0 < b) (hB : B ≤ w.heap.size) :
    Calls Tryd.prog 12 #[.pointer (some ⟨b, 0, none⟩), .int .i64 n] w fun e w' => e = .returned (.string (bsAt n)) ∧ IsB w' B b cs ∧ w.grownBy w' (some b) := by
  have HT := Lib.hid (tabC w B b cs h hm h0 hB)
  have n0 : (0 : Int) ≤ n := by omega
  have n1 : (n : Int) < 17 := by omega
  have HI := Lib.hid (isC n w true (by simp [n0, n1]))
  clear h hm
  have hnot : ∀ (x : Bool) (w : World), (Op.unary .not (.bool x)).run Tryd.prog w = .ok (.bool (!x)) w := fun _ _ => rfl
  go_enter Tryd.func12, Tryd.ntmps12
  go_wp2_with fail
  refine HI.out.mono ?_
  rintro e w1 ⟨rfl, rfl⟩
  go_wp2_with fail
  refine HT.out.mono ?_
  rintro e w1 ⟨rfl, hF, g1⟩
  obtain ⟨hcs, hb, mb, g, c, hk, f⟩ := hF
  have c21 : w1.cell? ⟨b, 21, none⟩ = some (.slice (some ⟨g, 0, none⟩) 17 c) := hk.cellL 21 (bCt_21 hcs)
  have cn : w1.cell? ⟨g, n, none⟩ = some (.string (bsAt n)) := f.row.cellL n (nmC_at n hn)
  have HB := Lib.hid hk
  have HF := Lib.hid f
  have HC := Lib.hid hcs
  clear hk f hcs
  go_wp2
  go_ret
  exact ⟨rfl, ⟨HC.out, hb, .inr ⟨mb, g, c, HB.out, HF.out⟩⟩, g1⟩
theorem nameOut (w : World) (b : Nat) (n : Int) (hn : n < 0 ∨ 17 ≤ n) :
    Calls Tryd.prog 12 #[.pointer (some ⟨b, 0, none⟩), .int .i64 n] w fun e w' => e = .returned (.string ⟨#[]⟩) ∧ w' = w := by
  have HI := Lib.hid (isC n w false (by simp; omega))
  clear hn
  have hnot : ∀ (x : Bool) (w : World), (Op.unary .not (.bool x)).run Tryd.prog w = .ok (.bool (!x)) w := fun _ _ => rfl
  go_enter Tryd.func12, Tryd.ntmps12
  go_wp2_with fail
  refine HI.out.mono ?_
  rintro e w1 ⟨rfl, rfl⟩
  go_wp2
  go_ret
  exact ⟨rfl, rfl⟩
-- a number
theorem numC (w : World) (B b : Nat) (cs : List Int) (s : ByteArray) (hs : s.size ≤ maxLen) (h : IsB w B b cs) (hm : MaxL w) (h0 : 0 < b) (hB : B ≤ w.heap.size) :
    Calls Tryd.prog 13 #[.pointer (some ⟨b, 0, none⟩), .string s] w fun e w' => e = .returned (.int .i64 (numD s.data.toList)) ∧ IsB w' B b cs ∧ w.grownBy w' (some b) := by
  have HT := Lib.hid (tabC w B b cs h hm h0 hB)
  have HS := Lib.hid hs
  clear h hm hs
  by_cases hx : 0 ≤ numK 17 s.data.toList
  · have hh : Maps.has (Dm 17) (.string s.data.toList) = true := by rw [Dm_has]; simp [hx]
    have HA := Lib.hid (Dm_at 17 s.data.toList (.lit (.int .i64 0)) hx)
    have HN : Hid (numD s.data.toList = numK 17 s.data.toList) := rfl
    clear hx
    go_enter Tryd.func13, Tryd.ntmps13
    go_wp2_with fail
    refine HT.out.mono ?_
    rintro e w1 ⟨rfl, hF, g1⟩
    obtain ⟨hcs, hb, mb, g, c, hk, f⟩ := hF
    have c20 : w1.cell? ⟨b, 20, none⟩ = some (.map (some mb)) := hk.cellL 20 (bCt_20 hcs)
    have HB := Lib.hid hk
    have HF := Lib.hid f
    have HC := Lib.hid hcs
    clear hk f hcs
    go_wp2_with (at_lookup; refine wpList_lookup_own_ok_int _ rfl _ _ 41 rfl 9 3 .i64 strK Tryd.underlying41 Tryd.underlying3 (zeroI _) mb 17 (Dm 17) rfl HF.out.own _ _ rfl (keyS HS.out) ?_; intro x hat hwx; obtain rfl : numK 17 s.data.toList = x := by (rw [HA.out] at hat; simpa using hat))
    go_wp2
    go_ret
    exact ⟨by rw [HN.out]; rfl, ⟨HC.out, hb, .inr ⟨mb, g, c, HB.out, HF.out⟩⟩, g1⟩
  · have hh : Maps.has (Dm 17) (.string s.data.toList) = false := by rw [Dm_has]; simp [hx]
    have HN : Hid (numD s.data.toList = -1) := by
      have := numK_lo 17 s.data.toList
      show numK 17 _ = -1
      omega
    clear hx
    go_enter Tryd.func13, Tryd.ntmps13
    go_wp2_with fail
    refine HT.out.mono ?_
    rintro e w1 ⟨rfl, hF, g1⟩
    obtain ⟨hcs, hb, mb, g, c, hk, f⟩ := hF
    have c20 : w1.cell? ⟨b, 20, none⟩ = some (.map (some mb)) := hk.cellL 20 (bCt_20 hcs)
    have HB := Lib.hid hk
    have HF := Lib.hid f
    have HC := Lib.hid hcs
    clear hk f hcs
    go_wp2_with (at_lookup; refine wpList_lookup_own_ok_int _ rfl _ _ 41 rfl 9 3 .i64 strK Tryd.underlying41 Tryd.underlying3 (zeroI _) mb 17 (Dm 17) rfl HF.out.own _ _ rfl (keyS HS.out) ?_; intro x hat hwx)
    go_wp2
    go_ret
    exact ⟨by rw [HN.out]; rfl, ⟨HC.out, hb, .inr ⟨mb, g, c, HB.out, HF.out⟩⟩, g1⟩
-- a counter
theorem getC (w : World) (B b : Nat) (cs : List Int) (n : Nat) (hn : n < 17) (h : IsB w B b cs) :
    Calls Tryd.prog 10 #[.pointer (some ⟨b, 0, none⟩), .int .i64 n] w fun e w' => e = .returned (.int .i64 (cs.getD n 0)) ∧ w' = w := by
  have n0 : (0 : Int) ≤ n := by omega
  have n1 : (n : Int) < 17 := by omega
  have HI := Lib.hid (isC n w true (by simp [n0, n1]))
  have hc := (h.cell n (by rw [h.1]; exact hn)).1
  have HV : Hid (cs.getD n 0 = cs[n]'(by rw [h.1]; exact hn)) := by
    show _ = _
    rw [List.getD_eq_getElem?_getD, List.getElem?_eq_getElem (by rw [h.1]; exact hn)]; rfl
  generalize cs[n]'(by rw [h.1]; exact hn) = x at hc HV
  have HL := Lib.hid (intLoad ⟨b, n, none⟩ x w hc)
  rw [HV.out]
  clear h hc
  have hnot : ∀ (x : Bool) (w : World), (Op.unary .not (.bool x)).run Tryd.prog w = .ok (.bool (!x)) w := fun _ _ => rfl
  go_enter Tryd.func10, Tryd.ntmps10
  go_wp2_with fail
  refine HI.out.mono ?_
  rintro e w1 ⟨rfl, rfl⟩
  go_wp2_with fail
  refine HL.out.mono ?_
  rintro e w1 ⟨rfl, rfl⟩
  go_wp2
  go_ret
  exact ⟨rfl, rfl⟩
theorem getOut (w : World) (b : Nat) (n : Int) (hn : n < 0 ∨ 17 ≤ n) :
    Calls Tryd.prog 10 #[.pointer (some ⟨b, 0, none⟩), .int .i64 n] w fun e w' => e = .returned (.int .i64 0) ∧ w' = w := by
  have HI := Lib.hid (isC n w false (by simp; omega))
  clear hn
  have hnot : ∀ (x : Bool) (w : World), (Op.unary .not (.bool x)).run Tryd.prog w = .ok (.bool (!x)) w := fun _ _ => rfl
  go_enter Tryd.func10, Tryd.ntmps10
  go_wp2_with fail
  refine HI.out.mono ?_
  rintro e w1 ⟨rfl, rfl⟩
  go_wp2
  go_ret
  exact ⟨rfl, rfl⟩
def topN : Int := 4611686018427387904
def sumT (x by_ : Int) : Int := min topN (x + by_)
theorem addIn (w : World) (B b : Nat) (cs : List Int) (n : Nat) (by_ : Int) (hn : n < 17) (h : IsB w B b cs) (h1 : 0 ≤ by_) (h2 : by_ ≤ 2147483647) (h3 : 0 ≤ cs.getD n 0) (h4 : cs.getD n 0 ≤ topN) :
    Calls Tryd.prog 22 #[.pointer (some ⟨b, 0, none⟩), .int .i64 n, .int .i64 by_] w fun e w' => e = .returned (.tuple #[]) ∧ IsB w' B b (cs.set n (sumT (cs.getD n 0) by_)) ∧ w.grownBy w' (some b) := by
  have n0 : (0 : Int) ≤ n := by omega
  have n1 : (n : Int) < 17 := by omega
  obtain ⟨hc, hz⟩ := h.cell n (by rw [h.1]; exact hn)
  have HV : cs.getD n 0 = cs[n]'(by rw [h.1]; exact hn) := by
    rw [List.getD_eq_getElem?_getD, List.getElem?_eq_getElem (by rw [h.1]; exact hn)]; rfl
  rw [HV] at h3 h4 ⊢
  generalize cs[n]'(by rw [h.1]; exact hn) = x at hc h3 h4 ⊢
  have HL := Lib.hid (intLoad ⟨b, n, none⟩ x w hc)
  unfold topN at h4
  have g0 : IntKind.i64.wrap (x + by_) = x + by_ := IntWalk.i64_in _ (by omega)
  obtain ⟨y, hy⟩ : ∃ y, y = sumT x by_ := ⟨_, rfl⟩
  have HC := Lib.hid (intCas ⟨b, n, none⟩ x y w hc hz)
  have HB := Lib.hid (h.set_ n hn y)
  have y1 : min (4611686018427387904 : Int) (x + by_) = y := by rw [hy]; rfl
  rw [← hy]
  clear h hc hz HV hy
  go_enter Tryd.func22, Tryd.ntmps22
  go_wp2_with fail
  go_loopw [7] (fun _ wr => wr = w) (fun _ _ => 0)
  case atStart => rfl
  case round =>
    subst hrel
    go_wp2_with fail
    refine HL.out.mono ?_
    rintro e w1 ⟨rfl, rfl⟩
    go_wp2_with fail
    refine HC.out.mono ?_
    rintro e w1 ⟨rfl, rfl⟩
    go_wp2
    refine bodyPost_ret (results_none rfl _ _ _) rfl ?_
    exact ⟨rfl, HB.out, setB⟩
end Go.Proofs.YtpfohcmificnmaaDoor
