/-
  Ports: the reference's Bind.
-/
import Derived.Test.YtbhplleaokncpaaPrR
set_option linter.unusedVariables false
namespace Go.Proofs.Ytbhplleaokncpaa
open Go.RowKit

def pz : Value := .agg #[.int .i64 0, .int .i64 0, .int .u32 0, .int .u32 0, .int .i64 0]
theorem stP : SliceTy Try.prog 44 97 5 32 pz := ⟨Try.underlying44, by kernel_rfl, rfl, by omega⟩
def badR : Obj → Prop
  | .cells _ t _ => t = 46 ∨ t = 97
  | _ => False
-- the program's ports do not see what happens in the reference's memory
theorem IsP.ref {w w' : World} {B pb : Nat} {S : List Pl} {row : Option Nat} (h : IsP w B pb S) (k : w.grownBy w' row) (hg : ∀ g o, row = some g → w.heap[g]? = some o → badR o) : IsP w' B pb S := by
  have hne : ∀ {g : Nat} {t : TypeId} {cs : Array Value}, Blk w g t cs → t ≠ 46 → t ≠ 97 → some g ≠ row := fun {g t cs} hb h1 h2 e => by
    rcases hg g _ e.symm hb with h | h
    · exact h1 h
    · exact h2 h
  obtain ⟨h0, ⟨h1, h2⟩ | ⟨mb, G, D, h1, h2, h3⟩⟩ := h
  · exact ⟨h0, .inl ⟨h1.grown k (hne h1 (by decide) (by decide)), h2⟩⟩
  · refine ⟨h0, .inr ⟨mb, G, D, h1.grown k (hne h1 (by decide) (by decide)), h2.kept k (fun e => ?_) (fun p hp => hne (h2.blk p hp) (by decide) (by decide)), h3⟩⟩
    obtain ⟨es, c, hm⟩ := h2.map_at
    exact hg mb _ e.symm hm
-- what a call of the reference leaves
theorem Keeps.of_row {bad : Obj → Prop} {a b : World} {row : Option Nat} (h : a.grownBy b row) (hb : ∀ g o, row = some g → a.heap[g]? = some o → bad o) : Keeps bad a b := fun i o ho hn =>
  (h.block i (by
    rcases Nat.lt_or_ge i a.heap.size with hlt | hge
    · exact hlt
    · rw [Array.getElem?_eq_none hge] at ho; cases ho) (fun e => hn (hb i o e.symm ho))).trans ho
def RfP (w w' : World) (B rb : Nat) (L : List Rp) : Prop := IsRf w' B rb L ∧ Below B w w' ∧ (∀ pb S, IsP w B pb S → IsP w' B pb S) ∧ Keeps badR w w'
theorem RfP.same {w w' : World} {B rb : Nat} {L : List Rp} (h : IsRf w B rb L) (hB : B ≤ w.heap.size) (k : Below w.heap.size w w') : RfP w w' B rb L := ⟨h.nx k, k.mono hB, fun _ _ hp => hp.nx k, Keeps.of_below k⟩
theorem RfP.trans {w w1 w2 : World} {B rb : Nat} {L L' : List Rp} (h : RfP w w1 B rb L) (k : RfP w1 w2 B rb L') : RfP w w2 B rb L' := ⟨k.1, h.2.1.trans k.2.1, fun _ _ hp => k.2.2.1 _ _ (h.2.2.1 _ _ hp), h.2.2.2.trans k.2.2.2⟩
theorem IsRf.put {w w2 : World} {B rb : Nat} {L : List Rp} {v v2 : Value} (hlo : B ≤ rb) (hB : Blk w2 rb 46 #[v]) (ow : w2.ownsRow B 97 5 v2 L.length (rcs L)) (hb : Below B w w2) (hk : ∀ pb S, IsP w B pb S → IsP w2 B pb S) (hq : Keeps badR w w2) :
    RfP w (w2.setCell ⟨rb, 0, none⟩ v2) B rb L := by
  have hs : w2.grownBy (w2.setCell ⟨rb, 0, none⟩ v2) (some rb) := only_setCell (p := ⟨rb, 0, none⟩) (World.grownBy.refl _ _) (.inl rfl) _
  have hbad : ∀ g o, some rb = some g → w2.heap[g]? = some o → badR o := fun g o e ho => by
    injection e with e
    subst e
    have := ho.symm.trans hB
    injection this with this
    subst this
    exact .inl rfl
  refine ⟨⟨hlo, v2, ?_, ow.kept hs ?_⟩, hb.setCell hlo _, fun pb S hp => (hk pb S hp).ref hs hbad, hq.trans (Keeps.of_row hs hbad)⟩
  · have := hB.set_ 0 v2
    exact this
  · rcases ow.2 with ⟨rfl, _⟩ | ⟨g, cap, cur, rfl, _, hg, _⟩
    · exact .inl rfl
    · refine .inr fun e => ?_
      have e' : g = rb := by simpa [Value.ownBlock] using e
      subst e'
      have := (show Blk w2 g _ _ from hg).symm.trans hB
      simp at this
def newR (id a port : Int) : Rp := ⟨id, port, a, 0, 0⟩
def bindRR (L : List Rp) (id a port : Int) : Int × List Rp :=
  if id < 0 ∨ port < 1 ∨ 65535 < port then (1, L) else if 0 ≤ spotR L id then (8, L) else if 64 ≤ L.length then (6, L) else if takenR L a port = true then (22, L) else (0, L ++ [newR id a port])
-- the block of a row of places, as the frame of an append asks it
theorem own_bad {w : World} {B n : Nat} {v : Value} {xs : List Value} (h : w.ownsRow B 97 5 v n xs) : ∀ g o, v.ownBlock = some g → w.heap[g]? = some o → badR o := fun g o e ho => by
  rcases h.2 with ⟨rfl, _⟩ | ⟨g', cap, cur, rfl, _, hg, _⟩
  · simp [Value.ownBlock] at e
  · simp only [Value.ownBlock, Option.some.injEq] at e
    subst e
    have := ho.symm.trans hg
    injection this with this
    subst this
    exact .inr rfl
theorem own_ne {w : World} {B n rb : Nat} {v : Value} {xs : List Value} {cs : Array Value} (h : w.ownsRow B 97 5 v n xs) (hB : Blk w rb 46 cs) : some rb ≠ v.ownBlock := fun e => by
  rcases h.2 with ⟨rfl, _⟩ | ⟨g', cap, cur, rfl, _, hg, _⟩
  · simp [Value.ownBlock] at e
  · simp only [Value.ownBlock, Option.some.injEq] at e
    subst e
    have := hg.symm.trans hB
    simp at this
set_option maxRecDepth 100000 in
set_option maxHeartbeats 1600000 in
theorem rbindC (B rb : Nat) (L : List Rp) (id a port : Int) (w : World) (h : IsRf w B rb L) (hB : B ≤ w.heap.size) (hl : L.length ≤ 64) :
    Calls Try.prog 38 #[.pointer (some ⟨rb, 0, none⟩), .int .i64 id, .int .u32 a, .int .i64 port] w fun e w' => e = .returned (.int .i64 (bindRR L id a port).1) ∧ RfP w w' B rb (bindRR L id a port).2 := by
  have HH := Lib.hid h
  obtain ⟨A, c, c0, f0, hcap, _⟩ := h.look
  have HSP := Lib.hid (spotC B rb L id w h hl)
  clear h
  by_cases h1 : id < 0
  · have HR : Hid (bindRR L id a port = (1, L)) := by show _ = _; unfold bindRR; rw [if_pos (.inl h1)]
    go_enter Try.func38, Try.ntmps38
    go_wp2
    go_ret
    exact ⟨by rw [HR.out]; rfl, by rw [HR.out]; exact RfP.same HH.out hB (rf w)⟩
  by_cases h2 : port < 1
  · have HR : Hid (bindRR L id a port = (1, L)) := by show _ = _; unfold bindRR; rw [if_pos (.inr (.inl h2))]
    go_enter Try.func38, Try.ntmps38
    go_wp2
    go_ret
    exact ⟨by rw [HR.out]; rfl, by rw [HR.out]; exact RfP.same HH.out hB (rf w)⟩
  by_cases h3 : 65535 < port
  · have HR : Hid (bindRR L id a port = (1, L)) := by show _ = _; unfold bindRR; rw [if_pos (.inr (.inr h3))]
    go_enter Try.func38, Try.ntmps38
    go_wp2
    go_ret
    exact ⟨by rw [HR.out]; rfl, by rw [HR.out]; exact RfP.same HH.out hB (rf w)⟩
  have HD : Hid (bindRR L id a port = if 0 ≤ spotR L id then (8, L) else if 64 ≤ L.length then (6, L) else if takenR L a port = true then (22, L) else (0, L ++ [newR id a port])) := by
    show _ = _
    unfold bindRR
    rw [if_neg (by rintro (h | h | h) <;> omega)]
  obtain ⟨s, hs⟩ : ∃ s, spotR L id = s := ⟨_, rfl⟩
  rw [hs] at HSP HD
  clear hs
  by_cases h4 : 0 ≤ s
  · have HR : Hid (bindRR L id a port = (8, L)) := by show _ = _; rw [HD.out, if_pos h4]
    go_enter Try.func38, Try.ntmps38
    go_wp2_with fail
    refine HSP.out.mono ?_
    rintro e w1 ⟨rfl, rfl⟩
    go_wp2
    go_ret
    exact ⟨by rw [HR.out]; rfl, by rw [HR.out]; exact RfP.same HH.out hB (rf _)⟩
  by_cases h5 : 64 ≤ L.length
  · have HR : Hid (bindRR L id a port = (6, L)) := by show _ = _; rw [HD.out, if_neg h4, if_pos h5]
    have i5 : ¬ (L.length : Int) < 64 := by omega
    go_enter Try.func38, Try.ntmps38
    go_wp2_with fail
    refine HSP.out.mono ?_
    rintro e w1 ⟨rfl, rfl⟩
    go_wp2
    go_ret
    exact ⟨by rw [HR.out]; rfl, by rw [HR.out]; exact RfP.same HH.out hB (rf _)⟩
  have i5 : (L.length : Int) < 64 := by omega
  have HTK := Lib.hid (takenC B rb L a port w HH.out hl)
  cases ht : takenR L a port
  · have HR : Hid (bindRR L id a port = (0, L ++ [newR id a port])) := by show _ = _; rw [HD.out, if_neg h4, if_neg h5, if_neg (by rw [ht]; decide)]
    rw [ht] at HTK
    clear ht
    go_enter Try.func38, Try.ntmps38
    go_wp2_with fail
    refine HSP.out.mono ?_
    rintro e w1 ⟨rfl, rfl⟩
    go_wp2_with fail
    refine HTK.out.mono ?_
    rintro e w2 ⟨rfl, b2⟩
    obtain ⟨v, hb0, ow0⟩ := (HH.out.nx b2).row
    obtain ⟨A0, k0, rfl⟩ := own_slice ow0
    have HB0 := Lib.hid hb0
    have OW0 := Lib.hid ow0
    have hlo := HH.out.lo
    have e0 : w2.cell? ⟨rb, 0, none⟩ = some (.slice A0 L.length k0) := hb0.cell 0
    have HB2 := Lib.hid b2
    have hB2 : B ≤ w2.heap.size := Nat.le_trans hB b2.size
    clear hb0 ow0 b2 c0 f0
    go_wp2_with (at_builtin
                 refine app_any stP rfl (.tmp 41) (.tmp 46) rfl B (.slice A0 L.length k0) L.length (rcs L) rfl (OW0.out.alloc _) (some ⟨w2.heap.size, 0, none⟩) 1 1 (newR id a port).cs rfl ⟨rfl, fun _ => ⟨_, rfl, by simp, fun j u hj => ?cs⟩⟩ (by intro u hu; simp [newR, Rp.cs] at hu; rcases hu with rfl | rfl | rfl | rfl | rfl <;> rfl) (by omega) (by omega) (by simp; omega) ?_
                 case cs =>
                   rw [Addr.add_mid, Nat.zero_add]
                   refine (Blk.cell (Blk.new w2 97 (newR id a port).cs.toArray) j).trans ?_
                   rw [List.getElem?_toArray]
                   exact hj
                 intro v3 w3 ow3 gr3 at3 bel3
                 obtain ⟨A3, c3, rfl⟩ := own_slice ow3
                 have e3 : w3.cell? ⟨rb, 0, none⟩ = some (.slice A0 L.length k0) := ((HB0.out.alloc _).grown gr3 (own_ne OW0.out HB0.out)).cell 0
                 have f3 : w3.frozen? ⟨rb, 0, none⟩ = false := ((HB0.out.alloc _).grown gr3 (own_ne OW0.out HB0.out)).frozen 0)
    go_ret
    refine ⟨by rw [HR.out]; rfl, ?_⟩
    rw [HR.out]
    have hP : ∀ pb S, IsP w1 B pb S → IsP w3 B pb S := fun pb S hp => (((hp.nx HB2.out).nx (al (rf w2) _)).ref gr3 (own_bad (OW0.out.alloc _)))
    have ow4 : w3.ownsRow B 97 5 (.slice A3 (L.length + 1) c3) (L ++ [newR id a port]).length (rcs (L ++ [newR id a port])) := by
      rw [rcs_app, List.length_append]
      exact ow3
    exact IsRf.put hlo ((HB0.out.alloc _).grown gr3 (own_ne OW0.out HB0.out)) ow4 ((HB2.out.mono hB).trans (((Below.refl B w2).alloc hB2 _).trans bel3)) hP ((Keeps.of_below (nx HB2.out (al (rf w2) _))).trans (Keeps.of_row gr3 (own_bad (OW0.out.alloc _))))
  · have HR : Hid (bindRR L id a port = (22, L)) := by show _ = _; rw [HD.out, if_neg h4, if_neg h5, if_pos ht]
    rw [ht] at HTK
    clear ht
    go_enter Try.func38, Try.ntmps38
    go_wp2_with fail
    refine HSP.out.mono ?_
    rintro e w1 ⟨rfl, rfl⟩
    go_wp2_with fail
    refine HTK.out.mono ?_
    rintro e w2 ⟨rfl, b2⟩
    go_wp2
    go_ret
    exact ⟨by rw [HR.out]; rfl, by rw [HR.out]; exact RfP.same HH.out hB b2⟩
end Go.Proofs.Ytbhplleaokncpaa
