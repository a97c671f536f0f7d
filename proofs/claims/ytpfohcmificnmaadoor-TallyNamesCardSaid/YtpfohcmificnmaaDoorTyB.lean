/-
  Tally: the board's table, laid once; Name and Number.
-/
import Derived.Test.YtpfohcmificnmaaDoorTyO
import Derived.Test.YtpfohcmificnmaaDoorShelf
import Derived.Deep.RegionHeld3
import Derived.Deep.QuietTactic
set_option linter.unusedVariables false
namespace Go.Proofs.YtpfohcmificnmaaDoor
open Go.RowKit Go.Maps

def MaxL (w : World) : Prop := ∃ m : Int, w.cell? ⟨0, 0, none⟩ = some (.int .i64 m)
theorem MaxL.nx {w w' : World} (h : MaxL w) (k : Below w.heap.size w w') : MaxL w' := by
  obtain ⟨m, hm⟩ := h
  have hlt : 0 < w.heap.size := by
    rcases Nat.lt_or_ge 0 w.heap.size with h' | h'
    · exact h'
    · simp [World.cell?, Array.getElem?_eq_none h'] at hm
  exact ⟨m, (k.cell (p := ⟨0, 0, none⟩) hlt).trans hm⟩
theorem MaxL.only {w w' : World} {b : Nat} (h : MaxL w) (k : w.grownBy w' (some b)) (hb : 0 < b) : MaxL w' := by
  obtain ⟨m, hm⟩ := h
  have hlt : 0 < w.heap.size := by
    rcases Nat.lt_or_ge 0 w.heap.size with h' | h'
    · exact h'
    · simp [World.cell?, Array.getElem?_eq_none h'] at hm
  refine ⟨m, ?_⟩
  have := k.block 0 hlt (by intro e; injection e with e; omega)
  unfold World.cell? at hm ⊢
  rw [this]; exact hm
theorem splitNm (w : World) (hm : MaxL w) :
    Calls Tryd.prog 34 #[.string strT, .string ⟨#[44]⟩] w fun e w' => ∃ g, e = .returned (.slice (some ⟨g, 0, none⟩) 17 17) ∧ w.heap.size ≤ g ∧ Blk w' g 9 nmC.toArray ∧ Below w.heap.size w w' := by
  obtain ⟨m, hm⟩ := hm
  obtain ⟨e1, e2⟩ := splitB_nm
  refine (Tryd.strings_Split strT ⟨#[44]⟩ m w (by decide +kernel) hm (by decide)).mono ?_
  rintro e w' ⟨rfl, rfl⟩
  rw [e1, e2]
  exact ⟨_, rfl, Nat.le_refl _, Blk.new w _ _, al (rf w) _⟩

def bCt (cs : List Int) (d st : Int) (m s : Value) : List Value := cs.map (fun x => Value.int .i64 x) ++ [.int .u32 d, .int .i32 st, .int .u32 0, m, s]
theorem bCs_t (cs : List Int) (d : Int) (m s : Value) : bCs cs d m s = bCt cs d 0 m s := rfl
section
variable {cs : List Int} {d st : Int} {m s : Value} (h : cs.length = 17)
include h
theorem bCt_17 : (bCt cs d st m s)[17]? = some (.int .u32 d) := by unfold bCt; rw [List.getElem?_append_right (by simp [h])]; simp [h]
theorem bCt_18 : (bCt cs d st m s)[18]? = some (.int .i32 st) := by unfold bCt; rw [List.getElem?_append_right (by simp [h])]; simp [h]
theorem bCt_20 : (bCt cs d st m s)[20]? = some m := by unfold bCt; rw [List.getElem?_append_right (by simp [h])]; simp [h]
theorem bCt_21 : (bCt cs d st m s)[21]? = some s := by unfold bCt; rw [List.getElem?_append_right (by simp [h])]; simp [h]
theorem bCt_s17 (x : Int) : (bCt cs d st m s).set 17 (.int .u32 x) = bCt cs x st m s := by unfold bCt; rw [List.set_append_right _ _ (by simp [h])]; simp [h]
theorem bCt_s18 (x : Int) : (bCt cs d st m s).set 18 (.int .i32 x) = bCt cs d x m s := by unfold bCt; rw [List.set_append_right _ _ (by simp [h])]; simp [h]
theorem bCt_s20 (x : Value) : (bCt cs d st m s).set 20 x = bCt cs d st x s := by unfold bCt; rw [List.set_append_right _ _ (by simp [h])]; simp [h]
theorem bCt_s21 (x : Value) : (bCt cs d st m s).set 21 x = bCt cs d st m x := by unfold bCt; rw [List.set_append_right _ _ (by simp [h])]; simp [h]
end
theorem Blk.setL {w : World} {b t : Nat} {l l' : List Value} (h : Blk w b t l.toArray) (i : Nat) (u : Value) (e : l.set i u = l') : Blk (w.setCell ⟨b, i, none⟩ u) b t l'.toArray := by
  have := h.set_ i u
  rwa [List.setIfInBounds_toArray, e] at this
theorem Blk.cellL {w : World} {b t : Nat} {l : List Value} (h : Blk w b t l.toArray) (i : Nat) {v : Value} (e : l[i]? = some v) : w.cell? ⟨b, i, none⟩ = some v := by
  rw [h.cell, List.getElem?_toArray, e]
theorem setB {w : World} {b i : Nat} {u : Value} : w.grownBy (w.setCell ⟨b, i, none⟩ u) (some b) := only_setCell (p := ⟨b, i, none⟩) (World.grownBy.refl _ _) (.inl rfl) _

structure Tb (w wr : World) (b pb mb g k : Nat) (cs : List Int) : Prop where
  blk : Blk wr b 44 (bCt cs 0 1 (.map (some mb)) (.slice (some ⟨g, 0, none⟩) 17 17)).toArray
  own : wr.ownsMap Tryd.prog 9 (plainElem Tryd.prog 3) mb k (Dm k)
  row : Blk wr g 9 nmC.toArray
  p : wr.cell? ⟨pb, 0, none⟩ = some (.pointer (some ⟨b, 0, none⟩))
  o : w.grownBy wr (some b)
  lo : w.heap.size ≤ mb
set_option maxHeartbeats 1600000 in
set_option maxRecDepth 10000 in
theorem tabFC (w : World) (B b : Nat) (cs : List Int) (pb : Nat) (hcs : cs.length = 17) (hm : MaxL w) (hp : w.cell? ⟨pb, 0, none⟩ = some (.pointer (some ⟨b, 0, none⟩))) (hpl : pb ≠ b) (h0 : 0 < b)
    (h : Blk w b 44 (bCt cs 0 1 (.map none) (.slice none 0 0)).toArray) (hB : B ≤ w.heap.size) :
    Calls Tryd.prog 33 #[.pointer (some ⟨pb, 0, none⟩)] w fun e w2 => e = .returned (.tuple #[]) ∧ ∃ mb g, Blk w2 b 44 (bCt cs 0 1 (.map (some mb)) (.slice (some ⟨g, 0, none⟩) 17 17)).toArray ∧ Full w2 B b mb g 17 ∧ w.grownBy w2 (some b) := by
  have HM := Lib.hid hm
  have HB := Lib.hid h
  have c21 : w.cell? ⟨b, 21, none⟩ = some (.slice none 0 0) := h.cellL 21 (bCt_21 hcs)
  have f21 : w.frozen? ⟨b, 21, none⟩ = false := h.frozen 21
  have hlt := h.lt
  have hplt : pb < w.heap.size := by
    unfold World.cell? at hp
    rcases Nat.lt_or_ge pb w.heap.size with h' | h'
    · exact h'
    · rw [Array.getElem?_eq_none h'] at hp; cases hp
  have hpne : (⟨b, 21, none⟩ : Addr) ≠ ⟨pb, 0, none⟩ := fun e => hpl (by injection e with e; exact e.symm)
  clear hm h
  go_enter Tryd.func33, Tryd.ntmps33
  go_wp2_with fail
  go_region_held3 (fun w' => w'.cell? ⟨pb, 0, none⟩ = some (.pointer (some ⟨b, 0, none⟩)))
    (first | exact hp | (with_reducible exact P1) | exact (World.cell?_setCell_other _ _ _ _ hpne).trans P1 | fail)
    (first
      | (go_at_call 34
         refine (splitNm _ (HM.out.nx (by first | exact (rf w).drew | exact rf w))).mono ?_
         rintro e8 w8 ⟨g, rfl, hg, hbk, b8⟩
         have hg' : w.heap.size ≤ g := hg
         have BA : Below w.heap.size w w8 := by first | exact b8 | exact nx (rf w).drew b8
         have P1 : w8.cell? ⟨pb, 0, none⟩ = some (.pointer (some ⟨b, 0, none⟩)) := (BA.cell hplt).trans hp
         have c21' : w8.cell? ⟨b, 21, none⟩ = some (.slice none 0 0) := (BA.cell (p := ⟨b, 21, none⟩) hlt).trans c21
         have f21' : w8.frozen? ⟨b, 21, none⟩ = false := (HB.out.nx BA).frozen 21)
      | fail)
  all_goals
    have B1 := Lib.hid ((HB.out.nx BA).setL 21 (.slice (some ⟨g, 0, none⟩) 17 17) (bCt_s21 hcs _))
    have hgb : g ≠ b := fun e => by omega
    have G1 := Lib.hid (hbk.only (setB (i := 21) (u := .slice (some ⟨g, 0, none⟩) 17 17)) hgb)
    have P2 : (w8.setCell ⟨b, 21, none⟩ (.slice (some ⟨g, 0, none⟩) 17 17)).cell? ⟨pb, 0, none⟩ = some (.pointer (some ⟨b, 0, none⟩)) := (World.cell?_setCell_other _ _ _ _ hpne).trans P1
    have O1 := Lib.hid (only_setCell (p := ⟨b, 21, none⟩) (only_nx (World.grownBy.refl w (some b)) BA) (.inl rfl) (.slice (some ⟨g, 0, none⟩) 17 17))
    have hlt8 := BA.size
    generalize hv1 : w8.setCell ⟨b, 21, none⟩ (.slice (some ⟨g, 0, none⟩) 17 17) = v1 at B1 G1 P2 O1 ⊢
    have hlt1 : w.heap.size ≤ v1.heap.size := O1.out.size
    have hglt : g < v1.heap.size := G1.out.lt
    clear hv1 P1 c21' f21' c21 f21 hp
    have c20 : v1.cell? ⟨b, 20, none⟩ = some (.map none) := B1.out.cellL 20 (bCt_20 hcs)
    have f20 : v1.frozen? ⟨b, 20, none⟩ = false := B1.out.frozen 20
    have hn1 : b < v1.heap.size := by omega
    have hn2 : pb < v1.heap.size := by omega
    have hn4 : ¬ b = pb := fun e => hpl e.symm
    have c21 : v1.cell? ⟨b, 21, none⟩ = some (.slice (some ⟨g, 0, none⟩) 17 17) := B1.out.cellL 21 (bCt_21 hcs)
    have hmm := @run_makeMap Tryd.prog
    go_wp2
    have hcs17 := Lib.hid hcs
    have G1' := G1.out
    have T0 : Tb w ((v1.setCell ⟨b, 20, none⟩ (.map (some v1.heap.size))).alloc (.map #[] 0)) b pb v1.heap.size g 0 cs := by
      have e0 : (v1.setCell ⟨b, 20, none⟩ (.map (some v1.heap.size))).heap.size = v1.heap.size := by simp
      refine ⟨(B1.out.setL 20 _ (bCt_s20 hcs _)).alloc _, ?_, ((G1.out.only setB hgb).alloc _), ?_, only_alloc (only_trans O1.out setB) _, hlt1⟩
      · have h := World.ownsMap_made (H := Unit) (v1.setCell ⟨b, 20, none⟩ (.map (some v1.heap.size))) Tryd.prog 9 (plainElem Tryd.prog 3)
        rwa [e0] at h
      · rw [World.cell?_alloc_lt _ _ _ (by simpa using hn2), World.cell?_setCell_other _ ⟨b, 20, none⟩ ⟨pb, 0, none⟩ _ (fun e => hn4 (by injection e))]
        exact P2
    generalize hmb : v1.heap.size = mb at T0 hn1 hn2 hlt1 hglt ⊢
    have HT0 := Lib.hid T0
    have HLO := Lib.hid (show B ≤ mb ∧ B ≤ g ∧ mb ≠ b ∧ g ≠ b ∧ g ≠ mb ∧ pb ≠ mb by omega)
    clear T0 hmb c20 f20 c21 hn1 hn2 hn4 P2 hlt hplt hlt8 hlt1 hglt hg hg' hgb hpne hcs G1'
    go_loopw [16] (fun i wr => ∃ k : Nat, k ≤ 17 ∧ i = .int .i64 k ∧ Hid (Tb w wr b pb mb g k cs)) (fun i _ => 17 - (intOf i).toNat)
    case atStart => exact ⟨0, by omega, rfl, HT0⟩
    case round =>
      obtain ⟨k, hk, rfl, HT⟩ := hrel
      by_cases hlt : k < 17
      · have k0 : (0 : Int) ≤ k := by omega
        have k1 : (k : Int) < 17 := by omega
        have hc := HT.out.row.cellL k (nmC_at k hlt)
        have hcp := HT.out.p
        have hc20 := HT.out.blk.cellL 20 (bCt_20 hcs17.out)
        have hkey : keyOf Tryd.prog 9 (.string (bsAt k)) = some (.string (nmAt k)) := by
          rw [keyS (by have := bsAt_size k hlt; unfold maxLen; omega), bsAt_data]
        go_wp2_with (at_mapUpdate; refine wpList_mapUpdate_own _ rfl _ _ _ 41 rfl 9 3 strK Tryd.underlying41 (plainElem Tryd.prog 3) mb k (Dm k) rfl HT.out.own (by unfold maxLen; omega) _ _ _ rfl rfl hkey (.lit (.int .i64 k)) [] (plainElem_int Tryd.underlying3 (WalkArith.wf_i64 (by omega))) ?_; intro w3 own3 hg3)
        have HT3 : Hid (Tb w w3 b pb mb g (k + 1) cs) := by
          have z := HLO.out
          refine ⟨HT.out.blk.only hg3 (fun e => z.2.2.1 e.symm), own3, HT.out.row.only hg3 z.2.2.2.2.1, ?_, ?_, HT.out.lo⟩
          · have hlt0 : pb < wr.heap.size := by
              unfold World.cell? at hcp
              rcases Nat.lt_or_ge pb wr.heap.size with h' | h'
              · exact h'
              · rw [Array.getElem?_eq_none h'] at hcp; cases hcp
            have := hg3.block pb hlt0 (by intro e; injection e with e; exact z.2.2.2.2.2 e)
            unfold World.cell? at hcp ⊢
            rw [this]; exact hcp
          · exact World.grownBy.andThen HT.out.o hg3 (fun j hj => by injection hj with hj; have := HT.out.lo; omega)
        clear own3 hg3 HT
        go_wp2
        go_roundw
        case rel => exact ⟨k + 1, by omega, by go_num, HT3⟩
        case measure => simp [intOf]; omega
      · obtain rfl : k = 17 := by omega
        go_wp2
        go_end0
        exact ⟨rfl, mb, g, HT.out.blk, ⟨HT.out.own, HT.out.row, HLO.out.2.2.1, HLO.out.2.2.2.1, HLO.out.1, HLO.out.2.1⟩, HT.out.o⟩
end Go.Proofs.YtpfohcmificnmaaDoor
