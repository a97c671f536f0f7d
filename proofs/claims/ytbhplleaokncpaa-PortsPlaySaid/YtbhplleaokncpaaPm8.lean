/-
  Ports: an id hears one alone; its place is taken away; ports of nothing; the laws' first example.
-/
import Derived.Test.YtbhplleaokncpaaPm7
set_option linter.unusedVariables false
namespace Go.Proofs.Ytbhplleaokncpaa
open Go.RowKit Go.Maps

def setP (id : Int) (al : Bool) (fr of : Int) (p : Pl) : Pl := if p.id = id then { p with alone := al, fr := fr, of := of } else p
theorem setP_id (id : Int) (al : Bool) (fr of : Int) (p : Pl) : (setP id al fr of p).id = p.id := by unfold setP; split <;> rfl
def conR (S : List Pl) (id a to : Int) : Int × List Pl :=
  if ids S id = false then (7, S) else if to < 0 ∨ 65535 < to then (1, S) else if to = 0 then (0, S.map (setP id false 0 0)) else (0, S.map (setP id true a to))
theorem ids_map (S : List Pl) (f : Pl → Pl) (hf : ∀ p, (f p).id = p.id) (x : Int) : ids (S.map f) x = ids S x := by
  unfold ids; rw [List.any_map]; congr 1; funext p; simp [hf]
theorem pl_uniq : ∀ (l : List Pl), l.Pairwise (fun p q => p.id ≠ q.id) → ∀ a ∈ l, ∀ b ∈ l, a.id = b.id → a = b := by
  intro l
  induction l with
  | nil => intro _ a ha; cases ha
  | cons c l ih =>
    intro hpw a ha b hb hab
    rw [List.pairwise_cons] at hpw
    rcases List.mem_cons.1 ha with ha' | ha'
    · rcases List.mem_cons.1 hb with hb' | hb'
      · rw [ha', hb']
      · rw [ha'] at hab; exact absurd hab (hpw.1 b hb')
    · rcases List.mem_cons.1 hb with hb' | hb'
      · rw [hb'] at hab; exact absurd hab.symm (hpw.1 a ha')
      · exact ih hpw.2 a ha' b hb' hab
theorem PmOk.set_ {w w' : World} {B mb : Nat} {S : List Pl} {G : Int → Nat} {D : DataW Unit} (h : PmOk w B mb S G D) {p : Pl} (hp : p ∈ S) (al : Bool) (fr of : Int) (hg : w.grownBy w' (some (G p.id)))
    (hblk : Blk w' (G p.id) 75 (setP p.id al fr of p).cs.toArray) : PmOk w' B mb (S.map (setP p.id al fr of)) G D := by
  have hid := setP_id p.id al fr of
  have hmem : ∀ q ∈ S.map (setP p.id al fr of), ∃ r ∈ S, q = setP p.id al fr of r := fun q hq => by
    obtain ⟨r, hr, e⟩ := List.mem_map.1 hq
    exact ⟨r, hr, e.symm⟩
  refine ⟨?_, ?_, ?_, ?_, ?_, ?_, ?_, ?_, ?_, ?_, h.mlo⟩
  · rw [List.length_map]
    exact h.own.kept hg (by intro e; injection e with e; exact h.ne_blk (h.blk p hp) e.symm)
  · rw [List.length_map]; exact h.size
  · intro x hx; rw [ids_map _ _ hid]; exact h.has x hx
  · intro q hq z
    obtain ⟨r, hr, rfl⟩ := hmem q hq
    rw [hid]; exact h.at_ r hr z
  · rw [List.pairwise_map]
    exact h.apart.imp fun hab => by rw [hid, hid]; exact hab
  · intro q hq
    obtain ⟨r, hr, rfl⟩ := hmem q hq
    rw [hid]; exact h.wf r hr
  · intro q hq
    obtain ⟨r, hr, rfl⟩ := hmem q hq
    rw [hid]; exact h.nn r hr
  · intro q hq
    obtain ⟨r, hr, rfl⟩ := hmem q hq
    rw [hid]; exact h.lo r hr
  · intro q hq
    obtain ⟨r, hr, rfl⟩ := hmem q hq
    rw [hid]
    by_cases e : r.id = p.id
    · have e2 : r = p := pl_uniq S h.apart r hr p hp e
      rw [e2]; exact hblk
    · have e3 : setP p.id al fr of r = r := if_neg e
      rw [e3]
      exact (h.blk r hr).grown hg (by intro e4; injection e4 with e4; exact e (h.inj r hr p hp e4))
  · intro q hq r hr
    obtain ⟨q', hq', rfl⟩ := hmem q hq
    obtain ⟨r', hr', rfl⟩ := hmem r hr
    rw [hid, hid]; exact h.inj q' hq' r' hr'
theorem PmOk.del {w w' : World} {B mb : Nat} {S : List Pl} {G : Int → Nat} {D : DataW Unit} (h : PmOk w B mb S G D) (id : Int) (hwf : (Lit.int .i64 id).wf = true) {n : Nat}
    (own : w'.ownsMap Try.prog 3 pR mb n (D.del (.int .i64 id))) (hg : w.grownBy w' (some mb)) : PmOk w' B mb (S.filter fun p => !(p.id == id)) G (D.del (.int .i64 id)) := by
  have hkey : WideAt.IsKeyLit (Lit.int .i64 id) := intK.key (key_mk hwf)
  have tidy := h.own.tidy intK
  have hs : Maps.size (D.del (.int .i64 id)) = (S.filter fun p => !(p.id == id)).length := by
    have h1 := Maps.size_del (k := .int .i64 id) tidy
    rw [h.has id hwf, h.size] at h1
    have h2 : ∀ l : List Pl, l.Pairwise (fun p q => p.id ≠ q.id) → (l.filter fun p => !(p.id == id)).length + (if ids l id then 1 else 0) = l.length := by
      intro l
      induction l with
      | nil => intro _; rfl
      | cons a l ih =>
        intro hp
        rw [List.pairwise_cons] at hp
        have h3 := ih hp.2
        by_cases e : a.id = id
        · have h4 : ids l id = false := by
            cases h5 : ids l id
            · rfl
            · obtain ⟨q, hq, e2⟩ := ids_mem h5
              exact absurd (e.trans e2.symm) (hp.1 q hq)
          rw [h4] at h3
          have h6 : ids (a :: l) id = true := by simp [ids, e]
          rw [h6]
          simp [e] at h3 ⊢
          exact h3
        · have h6 : ids (a :: l) id = ids l id := by simp [ids, e]
          rw [h6]
          simp [e]
          omega
    have h3 := h2 S h.apart
    omega
  refine ⟨?_, hs, ?_, ?_, h.apart.filter _, ?_, ?_, ?_, ?_, ?_, h.mlo⟩
  · rw [← hs]; exact tighten own
  · intro x hx
    by_cases e : x = id
    · subst e
      rw [Maps.has_del_same]
      symm
      unfold ids
      rw [List.any_eq_false]
      intro p hp
      simp at hp
      simp [hp.2]
    · rw [Maps.has_del_other (by intro h; injection h with _ h; exact e h), h.has x hx]
      unfold ids
      rw [List.any_filter]
      congr 1; funext p
      by_cases e2 : p.id = x
      · simp [e2, e]
      · simp [e2]
  · intro p hp z
    have hp' := List.mem_filter.1 hp
    rw [Maps.atKey_del_other (by intro h; injection h with _ h; simp [h] at hp'), h.at_ p hp'.1]
  · intro p hp; exact h.wf p (List.mem_filter.1 hp).1
  · intro p hp; exact h.nn p (List.mem_filter.1 hp).1
  · intro p hp; exact h.lo p (List.mem_filter.1 hp).1
  · intro p hp; exact (h.blk p (List.mem_filter.1 hp).1).grown hg (by intro e; injection e with e; exact h.ne_blk (h.blk p (List.mem_filter.1 hp).1) e)
  · intro p hp q hq; exact h.inj p (List.mem_filter.1 hp).1 q (List.mem_filter.1 hq).1
def delR (S : List Pl) (id : Int) : Bool × List Pl := if ids S id then (true, S.filter fun p => !(p.id == id)) else (false, S)
set_option maxRecDepth 100000 in
set_option maxHeartbeats 1600000 in
theorem delC (B pb : Nat) (S : List Pl) (id : Int) (w : World) (h : IsP w B pb S) (hB : B ≤ w.heap.size) (hid : (Lit.int .i64 id).wf = true) :
    Calls Try.prog 18 #[.pointer (some ⟨pb, 0, none⟩), .int .i64 id] w fun e w' => e = .returned (.bool (delR S id).1) ∧ Went w w' B pb (delR S id).2 := by
  have hh := h
  obtain ⟨m, G0, c0, hlook, _, _⟩ := h.reads
  have hl : (Instr.lookup 25 (.map m) (.int .i64 id) false).run Try.prog w = .ok (if ids S id then .pointer (some ⟨G0 id, 0, none⟩) else .pointer none) w := hlook 0 id hid
  unfold delR
  clear hlook
  cases h1 : ids S id
  · rw [h1] at hl
    simp only [Bool.false_eq_true, if_false] at hl ⊢
    have HH := Lib.hid (Went.same hh hB (rf w))
    clear h hh hB hid h1
    go_enter Try.func18, Try.ntmps18
    go_wp2
    go_ret
    exact ⟨rfl, HH.out⟩
  · rw [h1] at hl
    simp only [if_true] at hl ⊢
    obtain ⟨hpb, ⟨hbk, rfl⟩ | ⟨mb, G, D, hbk, hP, hne⟩⟩ := h
    · cases h1
    · have e : some (Value.map m) = some (Value.map (some mb)) := c0.symm.trans (hbk.cell 0)
      injection e with e
      injection e with e
      subst e
      have HP := Lib.hid hP
      have HBK := Lib.hid hbk
      have HPB := Lib.hid hpb
      have HBB := Lib.hid hB
      have HK := Lib.hid (key_mk hid)
      have HID := Lib.hid hid
      clear hP hbk hpb hB hid hh h1
      go_enter Try.func18, Try.ntmps18
      go_wp2_with (at_delete; refine wpList_delete_own _ rfl _ _ 25 3 rfl 73 intK Try.underlying25 pR mb S.length D rfl HP.out.own _ _ rfl HK.out ?_; intro w1 hown1 hturn1)
      go_ret
      have hg := hturn1.grown
      obtain ⟨es, ck, hmap⟩ := HP.out.map_at
      exact ⟨rfl, ⟨HPB.out, .inr ⟨mb, G, _, HBK.out.grown hg (by intro e; injection e with e; exact hne e.symm), HP.out.del id HID.out hown1 hg, hne⟩⟩, below_only hg HP.out.mlo HBB.out, Keeps.of_grown hg hmap trivial, hg.size⟩
set_option maxRecDepth 100000 in
set_option maxHeartbeats 1600000 in
theorem conC (B pb : Nat) (S : List Pl) (id a to : Int) (w : World) (h : IsP w B pb S) (hB : B ≤ w.heap.size) (hid : (Lit.int .i64 id).wf = true) :
    Calls Try.prog 17 #[.pointer (some ⟨pb, 0, none⟩), .int .i64 id, .int .u32 a, .int .i64 to] w fun e w' => e = .returned (.int .i64 (conR S id a to).1) ∧ Went w w' B pb (conR S id a to).2 := by
  have HH := Lib.hid (Went.same h hB (rf w))
  obtain ⟨m, G0, c0, hlook, _, _⟩ := h.reads
  have hl : (Instr.lookup 25 (.map m) (.int .i64 id) false).run Try.prog w = .ok (if ids S id then .pointer (some ⟨G0 id, 0, none⟩) else .pointer none) w := hlook 0 id hid
  unfold conR
  clear hlook
  cases h1 : ids S id
  · rw [h1] at hl
    simp only [Bool.false_eq_true, if_false, if_true] at hl ⊢
    clear h hB hid h1
    go_enter Try.func17, Try.ntmps17
    go_wp2
    go_ret
    exact ⟨rfl, HH.out⟩
  rw [h1] at hl
  rw [if_neg (by decide)]
  simp only [if_true] at hl
  by_cases h2 : to < 0 ∨ 65535 < to
  · rw [if_pos h2]
    have hd : decide (0 ≤ to ∧ to ≤ 65535) = false := decide_eq_false (by omega)
    clear h hB hid h1 h2
    go_enter Try.func17, Try.ntmps17
    go_wp2_with fail
    refine (portC to _).mono ?_
    rintro e w1 ⟨rfl, rfl⟩
    rw [hd]
    go_wp2
    go_ret
    exact ⟨rfl, HH.out⟩
  rw [if_neg h2]
  have hd : decide (0 ≤ to ∧ to ≤ 65535) = true := decide_eq_true (by omega)
  have HD := Lib.hid hd
  clear hd h2 HH
  obtain ⟨hpb, ⟨hbk, rfl⟩ | ⟨mb, G, D, hbk, hP, hne⟩⟩ := h
  · cases h1
  obtain ⟨p, hp, rfl⟩ := ids_mem h1
  have hl2 := hP.look (hP.wf p hp)
  rw [h1] at hl2
  simp only [if_true] at hl2
  have e : some (Value.map m) = some (Value.map (some mb)) := c0.symm.trans (hbk.cell 0)
  injection e with e
  injection e with e
  subst e
  clear hl
  have hb := hP.blk p hp
  have k2 : w.cell? ⟨G p.id, 2, none⟩ = some (.bool p.alone) := hb.cell 2
  have k3 : w.cell? ⟨G p.id, 3, none⟩ = some (.int .u32 p.fr) := hb.cell 3
  have k4 : w.cell? ⟨G p.id, 4, none⟩ = some (.int .i64 p.of) := hb.cell 4
  have f2 := hb.frozen 2
  have f3 := hb.frozen 3
  have f4 := hb.frozen 4
  have HP := Lib.hid hP
  have HBK := Lib.hid hbk
  have HPB := Lib.hid hpb
  have HBB := Lib.hid hB
  have HPM := Lib.hid hp
  have HBP := Lib.hid hb
  have hne2 : Hid (pb ≠ G p.id) := Blk.ne_ hbk hb (by decide)
  have fin : Hid (∀ (al : Bool) (fr of : Int), Went w (((w.setCell ⟨G p.id, 2, none⟩ (.bool al)).setCell ⟨G p.id, 3, none⟩ (.int .u32 fr)).setCell ⟨G p.id, 4, none⟩ (.int .i64 of)) B pb (S.map (setP p.id al fr of))) := by
    intro al fr of
    have hg : w.grownBy (((w.setCell ⟨G p.id, 2, none⟩ (.bool al)).setCell ⟨G p.id, 3, none⟩ (.int .u32 fr)).setCell ⟨G p.id, 4, none⟩ (.int .i64 of)) (some (G p.id)) :=
      only_setCell (p := ⟨G p.id, 4, none⟩) (only_setCell (p := ⟨G p.id, 3, none⟩) (only_setCell (p := ⟨G p.id, 2, none⟩) (World.grownBy.refl _ _) (.inl rfl) _) (.inl rfl) _) (.inl rfl) _
    have hbl : Blk (((w.setCell ⟨G p.id, 2, none⟩ (.bool al)).setCell ⟨G p.id, 3, none⟩ (.int .u32 fr)).setCell ⟨G p.id, 4, none⟩ (.int .i64 of)) (G p.id) 75 (setP p.id al fr of p).cs.toArray := by
      have := ((hb.set_ 2 (.bool al)).set_ 3 (.int .u32 fr)).set_ 4 (.int .i64 of)
      unfold setP; rw [if_pos rfl]; exact this
    exact ⟨⟨hpb, .inr ⟨mb, G, D, hbk.grown hg (by intro e; injection e with e; exact hne2.out e), hP.set_ hp al fr of hg hbl, hne⟩⟩, below_only hg (hP.lo p hp) hB, Keeps.of_grown hg hb (.inr rfl), hg.size⟩
  clear hP hbk hpb hB hp hb hid h1
  by_cases h3 : to = 0
  · rw [if_pos h3]
    subst h3
    go_enter Try.func17, Try.ntmps17
    go_wp2_with fail
    refine (portC 0 _).mono ?_
    rintro e w1 ⟨rfl, rfl⟩
    rw [HD.out]
    go_wp2
    go_ret
    exact ⟨rfl, fin.out false 0 0⟩
  · rw [if_neg h3]
    have q3 : ((to : Int) == 0) = false := by rw [beq_eq_false_iff_ne]; exact h3
    clear h3
    go_enter Try.func17, Try.ntmps17
    go_wp2_with fail
    refine (portC to _).mono ?_
    rintro e w1 ⟨rfl, rfl⟩
    rw [HD.out]
    go_wp2
    go_ret
    exact ⟨rfl, fin.out true a to⟩
end Go.Proofs.Ytbhplleaokncpaa
