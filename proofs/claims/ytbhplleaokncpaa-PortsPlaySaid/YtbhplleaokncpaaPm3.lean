/-
  Ports: an id is given a place.
-/
import Derived.Test.YtbhplleaokncpaaPm2
set_option linter.unusedVariables false
namespace Go.Proofs.Ytbhplleaokncpaa
open Go.RowKit Go.Maps

-- all objects but those of a kind stand
def Keeps (bad : Obj → Prop) (w w' : World) : Prop := ∀ (i : Nat) (o : Obj), w.heap[i]? = some o → ¬ bad o → w'.heap[i]? = some o
theorem Keeps.refl (bad : Obj → Prop) (w : World) : Keeps bad w w := fun _ _ h _ => h
theorem Keeps.trans {bad : Obj → Prop} {a b c : World} (h : Keeps bad a b) (k : Keeps bad b c) : Keeps bad a c := fun i o ho hb => k i o (h i o ho hb) hb
theorem Keeps.of_below {bad : Obj → Prop} {a b : World} (h : Below a.heap.size a b) : Keeps bad a b := fun i o ho _ => by
  have hi : i < a.heap.size := (Array.getElem?_eq_some_iff.1 ho).1
  rw [h.block i hi]; exact ho
theorem Keeps.of_grown {bad : Obj → Prop} {a b : World} {g : Nat} {o' : Obj} (h : a.grownBy b (some g)) (hg : a.heap[g]? = some o') (hb : bad o') : Keeps bad a b := fun i o ho hn => by
  have hi : i < a.heap.size := (Array.getElem?_eq_some_iff.1 ho).1
  have hne : i ≠ g := by
    rintro rfl
    rw [hg] at ho
    injection ho with ho
    exact hn (ho ▸ hb)
  rw [h.block i hi (by intro e; injection e with e; exact hne e)]; exact ho
theorem Keeps.blk {bad : Obj → Prop} {a b : World} (h : Keeps bad a b) {g : Nat} {t : TypeId} {cs : Array Value} (hg : Blk a g t cs) (hn : ¬ bad (.cells cs t (0, 0))) : Blk b g t cs := h g _ hg hn
def badP : Obj → Prop
  | .cells _ t _ => t = 27 ∨ t = 75
  | .map _ _ => True
  | _ => False

theorem PmOk.map_at {w : World} {B mb : Nat} {S : List Pl} {G : Int → Nat} {D : DataW Unit} (h : PmOk w B mb S G D) : ∃ es c, w.heap[mb]? = some (.map es c) := by
  obtain ⟨es, c, hb, _⟩ := h.own
  exact ⟨es, c, hb⟩
theorem PmOk.ne_blk {w : World} {B mb : Nat} {S : List Pl} {G : Int → Nat} {D : DataW Unit} (h : PmOk w B mb S G D) {g : Nat} {t : TypeId} {cs : Array Value} (hg : Blk w g t cs) : g ≠ mb := by
  rintro rfl
  obtain ⟨es, c, hb⟩ := h.map_at
  unfold Blk at hg
  rw [hb] at hg
  injection hg with hg
  cases hg
theorem PmOk.add {w w' : World} {B mb g : Nat} {S : List Pl} {G : Int → Nat} {D : DataW Unit} (h : PmOk w B mb S G D) (p : Pl) (hnew : ids S p.id = false) (hwf : (Lit.int .i64 p.id).wf = true) (hnn : 0 ≤ p.id)
    (own : w'.ownsMap Try.prog 3 pR mb (S.length + 1) (D.put (.int .i64 p.id) (pD (some g)))) (hg : w.grownBy w' (some mb)) (hblk : Blk w' g 75 p.cs.toArray) (hB : B ≤ g) (hfresh : ∀ q ∈ S, G q.id ≠ g) :
    PmOk w' B mb (S ++ [p]) (fun x => if x = p.id then g else G x) (D.put (.int .i64 p.id) (pD (some g))) := by
  have hne := ids_not hnew
  have hkey : WideAt.IsKeyLit (Lit.int .i64 p.id) := intK.key (key_mk hwf)
  have tidy := h.own.tidy intK
  have hD := tidy.isMap
  have hG : ∀ q ∈ S, (if q.id = p.id then g else G q.id) = G q.id := fun q hq => if_neg (hne q hq)
  refine ⟨?_, ?_, ?_, ?_, ?_, ?_, ?_, ?_, ?_, ?_, h.mlo⟩
  · simpa using own
  · rw [Maps.size_put tidy, h.has p.id hwf, hnew, h.size]; simp
  · intro x hx
    by_cases e : x = p.id
    · subst e
      rw [Maps.has_put_same hD hkey]; simp [ids]
    · rw [Maps.has_put_other (by intro h; injection h with _ h; exact e h), h.has x hx]
      simp [ids, List.any_append]; intro h; exact absurd h.symm e
  · intro q hq z
    rcases List.mem_append.1 hq with hq | hq
    · simp only [hG q hq]
      rw [Maps.atKey_put_other (by intro e; injection e with _ e; exact hne q hq e)]
      exact h.at_ q hq z
    · obtain rfl := List.mem_singleton.1 hq
      simp only [if_true]
      exact Maps.atKey_put_same hD hkey _ _
  · rw [List.pairwise_append]
    exact ⟨h.apart, by simp, fun a ha b hb => by obtain rfl := List.mem_singleton.1 hb; exact hne a ha⟩
  · intro q hq
    rcases List.mem_append.1 hq with hq | hq
    · exact h.wf q hq
    · obtain rfl := List.mem_singleton.1 hq; exact hwf
  · intro q hq
    rcases List.mem_append.1 hq with hq | hq
    · exact h.nn q hq
    · obtain rfl := List.mem_singleton.1 hq; exact hnn
  · intro q hq
    rcases List.mem_append.1 hq with hq | hq
    · simp only [hG q hq]; exact h.lo q hq
    · obtain rfl := List.mem_singleton.1 hq; simpa using hB
  · intro q hq
    rcases List.mem_append.1 hq with hq | hq
    · simp only [hG q hq]; exact (h.blk q hq).grown hg (by intro e; injection e with e; exact h.ne_blk (h.blk q hq) e)
    · obtain rfl := List.mem_singleton.1 hq; simpa using hblk
  · intro q hq r hr
    rcases List.mem_append.1 hq with hq1 | hq1 <;> rcases List.mem_append.1 hr with hr1 | hr1
    · simp only [hG q hq1, hG r hr1]; exact h.inj q hq1 r hr1
    · have e1 := List.mem_singleton.1 hr1
      rw [e1]
      simp only [hG q hq1, if_true]; intro e; exact absurd e (hfresh q hq1)
    · have e1 := List.mem_singleton.1 hq1
      rw [e1]
      simp only [hG r hr1, if_true]; intro e; exact absurd e.symm (hfresh r hr1)
    · rw [List.mem_singleton.1 hq1, List.mem_singleton.1 hr1]
      intro _; rfl
def newP (id a port : Int) : Pl := ⟨id, a, port, false, 0, 0⟩
def bindR (S : List Pl) (id a port : Int) : Int × List Pl :=
  if port < 1 ∨ 65535 < port then (1, S) else if mayR S id ≠ 0 then (mayR S id, S) else if freeR S a port = false then (22, S) else (0, S ++ [newP id a port])
-- what a call leaves
def Went (w w' : World) (B pb : Nat) (S : List Pl) : Prop := IsP w' B pb S ∧ Below B w w' ∧ Keeps badP w w' ∧ w.heap.size ≤ w'.heap.size
theorem Went.same {w w' : World} {B pb : Nat} {S : List Pl} (h : IsP w B pb S) (hB : B ≤ w.heap.size) (hb : Below w.heap.size w w') : Went w w' B pb S := ⟨h.nx hb, hb.mono hB, Keeps.of_below hb, hb.size⟩
set_option maxRecDepth 100000 in
set_option maxHeartbeats 1600000 in
theorem bindC (B pb : Nat) (S : List Pl) (id a port : Int) (w : World) (h : IsP w B pb S) (hB : B ≤ w.heap.size) (hid : (Lit.int .i64 id).wf = true) (hS : S.length ≤ 64) :
    Calls Try.prog 13 #[.pointer (some ⟨pb, 0, none⟩), .int .i64 id, .int .u32 a, .int .i64 port] w fun e w' => e = .returned (.int .i64 (bindR S id a port).1) ∧ Went w w' B pb (bindR S id a port).2 := by
  unfold bindR
  by_cases h1 : port < 1 ∨ 65535 < port
  · rw [if_pos h1]
    rcases h1 with h1 | h1
    · go_enter Try.func13, Try.ntmps13
      go_wp2
      go_ret
      exact ⟨rfl, Went.same h hB (rf _)⟩
    · have h2 : ¬ port < 1 := by omega
      go_enter Try.func13, Try.ntmps13
      go_wp2
      go_ret
      exact ⟨rfl, Went.same h hB (rf _)⟩
  rw [if_neg h1]
  have p1 : ¬ port < 1 := fun e => h1 (.inl e)
  have p2 : ¬ 65535 < port := fun e => h1 (.inr e)
  clear h1
  have HC := Lib.hid (mayC B pb S id w h hid hS)
  by_cases h2 : mayR S id ≠ 0
  · rw [if_pos h2]
    generalize mayR S id = m at HC h2 ⊢
    have q1 : ((m : Int) != 0) = true := by rw [bne_iff_ne]; exact h2
    clear h2
    go_enter Try.func13, Try.ntmps13
    go_wp2_with fail
    refine HC.out.mono ?_
    rintro e w1 ⟨rfl, rfl⟩
    go_wp2
    go_ret
    exact ⟨rfl, Went.same h hB (rf _)⟩
  have h2' : mayR S id = 0 := Decidable.not_not.1 h2
  rw [if_neg h2]
  have H2 := Lib.hid h2'
  rw [h2'] at HC
  clear h2 h2'
  have HF := Lib.hid (freeC B pb S a port w h)
  cases h3 : freeR S a port
  · rw [h3] at HF
    rw [if_pos rfl]
    clear h3
    go_enter Try.func13, Try.ntmps13
    go_wp2_with fail
    refine HC.out.mono ?_
    rintro e w1 ⟨rfl, rfl⟩
    go_wp2_with fail
    refine HF.out.mono ?_
    rintro e w1 ⟨rfl, hb1⟩
    go_wp2
    go_ret
    exact ⟨rfl, Went.same h hB hb1⟩
  rw [h3] at HF
  rw [if_neg (by decide)]
  clear h3
  have hnew : Hid (ids S id = false) := by
    show ids S id = false
    have := H2.out
    unfold mayR at this
    by_cases a0 : id < 0
    · rw [if_pos a0] at this; cases this
    · rw [if_neg a0] at this
      cases hi : ids S id
      · rfl
      · rw [hi, if_pos rfl] at this; cases this
  have HNN : Hid (0 ≤ id) := by
    show 0 ≤ id
    have := H2.out
    unfold mayR at this
    by_cases a0 : id < 0
    · rw [if_pos a0] at this; cases this
    · omega
  have hn64 : Hid (S.length < maxLen) := by show S.length < maxLen; unfold maxLen; omega
  have hnil := fun (w : World) (r : Option Nat) => run_eql_map_nil (P := Try.prog) w 25 _ _ r Try.underlying25
  have hKEY := Lib.hid (key_mk hid)
  have HID := Lib.hid hid
  have HBB := Lib.hid hB
  clear hid hS hB
  obtain ⟨hpb, ⟨hbk, rfl⟩ | ⟨mb, G, D, hbk, hP, hne⟩⟩ := h
  · have HBK := Lib.hid hbk
    have HPB := Lib.hid hpb
    clear hbk H2 hpb
    go_enter Try.func13, Try.ntmps13
    go_wp2_with fail
    refine HC.out.mono ?_
    rintro e w1 ⟨rfl, rfl⟩
    go_wp2_with fail
    refine HF.out.mono ?_
    rintro e w2 ⟨rfl, hb1⟩
    have hbk2 := HBK.out.nx hb1
    have c0 : w2.cell? ⟨pb, 0, none⟩ = some (.map none) := hbk2.cell 0
    have f0 := hbk2.frozen 0
    have hlt := hbk2.lt
    have hmm := @run_makeMap Try.prog
    have hnp : pb ≠ w2.heap.size := Nat.ne_of_lt hlt
    have HB1 := Lib.hid hb1
    have HBK2 := Lib.hid hbk2
    have hsz : (w2.setCell ⟨pb, 0, none⟩ (.map (some w2.heap.size))).heap.size = w2.heap.size := by simp
    have own1 : ((w2.setCell ⟨pb, 0, none⟩ (.map (some w2.heap.size))).alloc (.map #[] 0)).ownsMap Try.prog 3 pR w2.heap.size 0 (.map []) := by
      have h := World.ownsMap_made (w2.setCell ⟨pb, 0, none⟩ (.map (some w2.heap.size))) Try.prog 3 pR
      rwa [hsz] at h
    have own0 := Lib.hid (own1.alloc (.cells #[.int .u32 a, .int .i64 port, .bool false, .int .u32 0, .int .i64 0] 75))
    have B1 : Blk (w2.setCell ⟨pb, 0, none⟩ (.map (some w2.heap.size))) pb 27 #[.map (some w2.heap.size)] := hbk2.set_ 0 _
    have HB1a := Lib.hid B1
    clear own1 B1 hsz
    have HNP := Lib.hid hnp
    clear hb1 hbk2 HBK hnp
    go_wp2_with (at_mapUpdate; refine wpList_mapUpdate_own _ rfl _ _ _ 25 rfl 3 73 intK Try.underlying25 pR w2.heap.size 0 (.map []) rfl own0.out hn64.out _ _ _ rfl rfl hKEY.out (pD (some (w2.heap.size + 1))) [] (pR_mk (some (w2.heap.size + 1))) ?_; intro w3 own3 hg3)
    go_ret
    have hz := HB1.out.size
    have hB := HBB.out
    have hlt := HBK2.out.lt
    have hnp := HNP.out
    have hn1 : ids ([] : List Pl) id = false := rfl
    have hbl : Blk (((w2.setCell ⟨pb, 0, none⟩ (.map (some w2.heap.size))).alloc (.map #[] 0)).alloc (.cells (newP id a port).cs.toArray 75)) (w2.heap.size + 1) 75 (newP id a port).cs.toArray := blk_at _ _ _ (by simp)
    have hp0 : PmOk (((w2.setCell ⟨pb, 0, none⟩ (.map (some w2.heap.size))).alloc (.map #[] 0)).alloc (.cells (newP id a port).cs.toArray 75)) B w2.heap.size [] (fun _ => 0) (.map []) :=
      ⟨own0.out, rfl, fun x _ => rfl, by simp, List.Pairwise.nil, by simp, by simp, by simp, by simp, by simp, by omega⟩
    have hadd := hp0.add (newP id a port) hn1 HID.out HNN.out own3 hg3 (hbl.grown hg3 (by intro e; injection e with e; omega)) (by omega) (by simp)
    refine ⟨rfl, ⟨HPB.out, .inr ⟨w2.heap.size, _, _, ((HB1a.out.alloc _).alloc _).grown hg3 (by intro e; injection e with e; exact hnp e), hadd, fun e => hnp e.symm⟩⟩, ?_, ?_, ?_⟩
    · have e1 : w2.grownBy (((w2.setCell ⟨pb, 0, none⟩ (.map (some w2.heap.size))).alloc (.map #[] 0)).alloc (.cells (newP id a port).cs.toArray 75)) (some pb) := only_alloc (only_alloc (only_setCell (p := ⟨pb, 0, none⟩) (World.grownBy.refl _ _) (.inl rfl) _) _) _
      exact (HB1.out.mono hB).trans ((below_only e1 HPB.out (by omega)).trans (below_only hg3 (by omega) (by simp; omega)))
    · have e1 : w2.grownBy (((w2.setCell ⟨pb, 0, none⟩ (.map (some w2.heap.size))).alloc (.map #[] 0)).alloc (.cells (newP id a port).cs.toArray 75)) (some pb) := only_alloc (only_alloc (only_setCell (p := ⟨pb, 0, none⟩) (World.grownBy.refl _ _) (.inl rfl) _) _) _
      obtain ⟨es, ck, hmap⟩ := hp0.map_at
      exact (Keeps.of_below HB1.out).trans ((Keeps.of_grown e1 HBK2.out (.inl rfl)).trans (Keeps.of_grown hg3 hmap trivial))
    · have := hg3.size; simp at this; omega
  · have HBK := Lib.hid hbk
    have HP := Lib.hid hP
    have HPB := Lib.hid hpb
    clear hbk hP H2 hpb
    go_enter Try.func13, Try.ntmps13
    go_wp2_with fail
    refine HC.out.mono ?_
    rintro e w1 ⟨rfl, rfl⟩
    go_wp2_with fail
    refine HF.out.mono ?_
    rintro e w2 ⟨rfl, hb1⟩
    have hbk2 := HBK.out.nx hb1
    have hP2 := HP.out.nx hb1
    have c0 : w2.cell? ⟨pb, 0, none⟩ = some (.map (some mb)) := hbk2.cell 0
    have HB1 := Lib.hid hb1
    have HBK2 := Lib.hid hbk2
    have HP2 := Lib.hid hP2
    clear hb1 hbk2 hP2 HBK HP
    go_wp2_with (at_mapUpdate; refine wpList_mapUpdate_own _ rfl _ _ _ 25 rfl 3 73 intK Try.underlying25 pR mb S.length D rfl (HP2.out.own.alloc _) hn64.out _ _ _ rfl rfl hKEY.out (pD (some w2.heap.size)) [] (pR_mk (some w2.heap.size)) ?_; intro w3 own3 hg3)
    go_ret
    have hz := HB1.out.size
    have hB := HBB.out
    have hlt := HBK2.out.lt
    have hpa := HP2.out.nx (al (rf w2) (.cells (newP id a port).cs.toArray 75))
    have hbl : Blk (w2.alloc (.cells (newP id a port).cs.toArray 75)) w2.heap.size 75 (newP id a port).cs.toArray := Blk.new _ _ _
    have hadd := hpa.add (newP id a port) hnew.out HID.out HNN.out own3 hg3 (hbl.grown hg3 (by intro e; injection e with e; exact hpa.ne_blk hbl e)) (by omega) (fun q hq => Nat.ne_of_lt (HP2.out.blk q hq).lt)
    obtain ⟨es, ck, hmap⟩ := hpa.map_at
    refine ⟨rfl, ⟨HPB.out, .inr ⟨mb, _, _, (HBK2.out.alloc _).grown hg3 (by intro e; injection e with e; exact hne e.symm), hadd, hne⟩⟩, ?_, ?_, ?_⟩
    · exact (HB1.out.mono hB).trans (((al (rf w2) _).mono (by omega)).trans (below_only hg3 HP2.out.mlo (by simp; omega)))
    · exact (Keeps.of_below HB1.out).trans ((Keeps.of_below (al (rf w2) _)).trans (Keeps.of_grown hg3 hmap trivial))
    · have := hg3.size; simp at this; omega
end Go.Proofs.Ytbhplleaokncpaa
