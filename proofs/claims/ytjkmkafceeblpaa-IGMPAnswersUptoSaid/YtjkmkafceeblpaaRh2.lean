/-
  Groups, the reference: Join.
-/
import Derived.Test.YtjkmkafceeblpaaRh1
set_option linter.unusedVariables false
namespace Go.Proofs.Ytjkmkafceeblpaa
open Go.RowKit

theorem OwnB.reads {w : World} {base : Nat} {A : Option Addr} {n c : Nat} {ms : List Mb} (h : OwnB w base (.slice A n c) ms) : Reads w w.heap.size 4 A ms.length (flatB ms) := by
  have hn : n = ms.length := by
    rcases h.2 with ⟨h1, h2⟩ | ⟨_, _, _, h1, _⟩
    · injection h1 with _ h1; omega
    · injection h1
  subst hn
  exact Reads.of_own h
theorem reads_take {w : World} {A : Option Addr} {ms : List Mb} (h : Reads w w.heap.size 4 A ms.length (flatB ms)) {p : Nat} (hp : p ≤ ms.length) : Reads w w.heap.size 4 A p (flatB (ms.take p)) := by
  refine ⟨by rw [flatB_len, List.length_take, Nat.min_eq_left hp], fun hp0 => ?_⟩
  obtain ⟨ad, e, h1, h2⟩ := h.2 (by omega)
  refine ⟨ad, e, h1, fun j u hj => h2 j u ?_⟩
  rw [← flatB_take, List.getElem?_take] at hj
  split at hj
  · exact hj
  · cases hj
def cutB (A : Option Addr) (c m : Nat) : Option Addr := if c = m then A else A.map (·.add (m * 4))
theorem reads_drop {w : World} {A : Option Addr} {ms : List Mb} (h : Reads w w.heap.size 4 A ms.length (flatB ms)) {p c : Nat} (hp : p ≤ ms.length) (hc : ms.length ≤ c) : Reads w w.heap.size 4 (cutB A c p) (ms.length - p) (flatB (ms.drop p)) := by
  have h1 := h.cut (k := p) (cap := c) hp hc
  rw [flatB_drop] at h1
  exact h1
theorem reads_drop' {w : World} {A : Option Addr} {ms : List Mb} {n : Nat} (h : Reads w w.heap.size 4 A ms.length (flatB ms)) (hn : ms.length = n) {p c : Nat} (hp : p ≤ n) (hc : n ≤ c) : Reads w w.heap.size 4 (cutB A c p) (n - p) (flatB (ms.drop p)) := by
  subst hn
  exact reads_drop h hp hc
theorem cut_nil {c p : Nat} : cutB none c p = none := by unfold cutB; split <;> rfl
theorem cut_eq {A : Option Addr} {c : Nat} : cutB A c c = A := if_pos rfl
theorem cut_ne {A : Option Addr} {c p : Nat} (h : ¬ c = p) : cutB A c p = A.map (·.add (p * 4)) := if_neg h
theorem cut_some {g c p : Nat} (h : ¬ c = p) : cutB (some ⟨g, 0, none⟩) c p = some ⟨g, p * 4, none⟩ := by
  rw [cut_ne h, Option.map_some, Addr.add_mid, Nat.zero_add]
def RhP (w : World) (B h : Nat) (gs : List Gm) (os : List (Int × Int × Int)) (err : Int) (e : Ending) (w' : World) : Prop :=
  ∃ V v ms, e = .returned (.tuple #[V, .int .i64 err]) ∧ OutM w w' V os ∧ IsRh w' B h ms v ∧ ms.map toG = gs ∧ Below B w w' ∧ KeepT w.heap.size [59, 96] w w'
theorem RhP.same {w w' : World} {B h : Nat} {ms : List Mb} {v : Value} {err : Int} (o : IsRh w B h ms v) (b : Below w.heap.size w w') (hB : B ≤ w.heap.size) : RhP w B h (ms.map toG) [] err (.returned (.tuple #[.slice none 0 0, .int .i64 err])) w' :=
  ⟨_, v, ms, rfl, OutM.nil _ _, o.nx b, rfl, b.mono hB, KeepT.of_below b (Nat.le_refl _)⟩
theorem flatB_one' (ms : List Mb) : ∀ u ∈ flatB ms, u.oneCell' = true := flatB_one ms
set_option maxRecDepth 10000 in
set_option maxHeartbeats 3200000 in
theorem rjoinK (w : World) {B h : Nat} {ms : List Mb} {v : Value} (o : IsRh w B h ms v) (hs : SortG (ms.map toG)) (hn : ms.length ≤ 16) (a now draw : Int) (h0 : 0 ≤ now) (h1 : now ≤ 1000000000000) (d1 : draw ≤ 9223372036854775807) (d0 : -9223372036854775808 ≤ draw) (hB : B ≤ w.heap.size) :
    Calls Try.prog 45 #[.pointer (some ⟨h, 0, none⟩), .int .u32 a, .int .i64 now, .int .i64 draw] w fun e w' => RhP w B h (joinG (ms.map toG) a now draw).1 (joinG (ms.map toG) a now draw).2.1 (joinG (ms.map toG) a now draw).2.2 e w' := by
  have HO := Lib.hid o
  have HF := Lib.hid (spotK w o hs (by omega) a)
  obtain ⟨A, c, hv, hnc⟩ := o.own.form
  obtain ⟨n, hnn⟩ : ∃ n, ms.length = n := ⟨_, rfl⟩
  rw [hnn] at hv hnc hn
  subst hv
  have HN := Lib.hid hnn
  unfold joinG
  by_cases ha : a < 3758096386 ∨ 4026531840 ≤ a
  · rw [if_pos ha]
    have hc : a ≤ 3758096385 ∨ (¬ a ≤ 3758096385 ∧ 4026531840 ≤ a) := by omega
    clear ha o hs hnn
    rcases hc with ha | ⟨ha, ha2⟩
    all_goals
      go_enter Try.func45, Try.ntmps45
      go_wp2
      refine bodyPost_ret (results_tmp2 rfl _ _ _) rfl ?_
      exact RhP.same HO.out (rf w) hB
  · rw [if_neg ha]
    have i0 : ¬ a ≤ 3758096385 := by omega
    have i1 : ¬ 4026531840 ≤ a := by omega
    clear ha
    by_cases hh : hitG (ms.map toG) a = true
    · rw [if_pos hh]
      rw [hh] at HF
      clear hh o hs hnn
      go_enter Try.func45, Try.ntmps45
      go_wp2_with fail
      refine HF.out.mono ?_
      rintro e w1 ⟨rfl, b1⟩
      go_wp2
      refine bodyPost_ret (results_tmp2 rfl _ _ _) rfl ?_
      exact RhP.same HO.out b1 hB
    · rw [if_neg hh]
      have hf : hitG (ms.map toG) a = false := by simpa using hh
      rw [hf] at HF
      clear hh hf
      by_cases hfull : 16 ≤ (ms.map toG).length
      · rw [if_pos hfull]
        have i16 : (16 : Int) ≤ n := by rw [List.length_map, hnn] at hfull; omega
        clear hfull o hs hnn
        go_enter Try.func45, Try.ntmps45
        go_wp2_with fail
        refine HF.out.mono ?_
        rintro e w1 ⟨rfl, b1⟩
        have c1 : w1.cell? ⟨h, 0, none⟩ = some (.slice A n c) := (HO.out.nx b1).host.cell 0
        go_wp2
        refine bodyPost_ret (results_tmp2 rfl _ _ _) rfl ?_
        exact RhP.same HO.out b1 hB
      · rw [if_neg hfull]
        have i16 : ¬ (16 : Int) ≤ n := by rw [List.length_map, hnn] at hfull; omega
        obtain ⟨p, hp⟩ : ∃ p, posG (ms.map toG) a = p := ⟨_, rfl⟩
        have hple : p ≤ n := by rw [← hp, ← hnn]; have := posG_le (ms.map toG) a; rw [List.length_map] at this; exact this
        rw [hp] at HF ⊢
        have p0 : (0 : Int) ≤ p := by omega
        have p1 : (p : Int) ≤ c := by omega
        have p2 : (p : Int) ≤ n := by omega
        have hfin : ∀ x : Int, now + x = dueV now draw 10 p → (ms.take p ++ (⟨a, true, now + x, true⟩ : Mb) :: ms.drop p).map toG = (ms.map toG).take p ++ ⟨a, some (dueV now draw 10 p), true⟩ :: (ms.map toG).drop p := fun x hx => by
          rw [List.map_append, List.map_cons, List.map_take, List.map_drop, ← hx]
          rfl
        have HFIN := Lib.hid hfin
        have DK := Lib.hid (fun V : World => delayK draw 10 p V (by omega) (by omega) (by omega) d1 d0)
        obtain ⟨dl, hdl⟩ : ∃ dl : Int, 1 + (max 0 draw % 10 + (p : Int)) % 10 = dl := ⟨_, rfl⟩
        rw [hdl] at DK
        have hdl0 : 0 ≤ dl := by omega
        have hdl1 : dl ≤ 11 := by omega
        have HDL : Hid (now + dl = dueV now draw 10 p) := by show _ = _; unfold dueV; rw [← hdl]
        clear hp hfull hfin hdl o hs hnn
        have hA : (A = none ∧ n = 0 ∧ c = 0) ∨ ∃ g, A = some ⟨g, 0, none⟩ := by
          rcases HO.out.own.2 with ⟨h1, h2⟩ | ⟨g, _, _, h1, _⟩
          · injection h1 with h1 h3 h4; exact .inl ⟨h1, h3, h4⟩
          · injection h1 with h1; exact .inr ⟨g, h1⟩
        have hcp : A = none ∨ (p = c ∧ ∃ g, A = some ⟨g, 0, none⟩) ∨ (¬ c = p ∧ ∃ g, A = some ⟨g, 0, none⟩) := by
          rcases hA with h | h
          · exact .inl h.1
          · by_cases hc : p = c
            · exact .inr (.inl ⟨hc, h⟩)
            · exact .inr (.inr ⟨fun h => hc h.symm, h⟩)
        clear hA
        rcases hcp with rfl | ⟨hpc, g, rfl⟩ | ⟨hcp, g, rfl⟩
        · go_enter Try.func45, Try.ntmps45
          go_wp2_with fail
          refine HF.out.mono ?_
          rintro e w1 ⟨rfl, b1⟩
          have O1 := Lib.hid (HO.out.nx b1)
          have c1 : w1.cell? ⟨h, 0, none⟩ = some (.slice _ _ _) := O1.out.host.cell 0
          have z1 := b1.size
          have BW1 := Lib.hid b1
          clear b1 HF
          have b1a : Below w.heap.size w (w1.alloc (.cells #[] 96)) := BW1.out.alloc z1 _
          have L1 : Hid ((w1.alloc (.cells #[] 96)).ownsRow w.heap.size 96 4 (.slice (some ⟨w1.heap.size, 0, none⟩) 0 0) 0 []) := own_lit w1 #[] 0 rfl z1 (by decide) rfl
          have O1a := Lib.hid (HO.out.nx b1a)
          have RD1 := Lib.hid (reads_take (OwnB.reads O1a.out.own) (p := p) (by rw [HN.out]; exact hple))
          have hz1a := b1a.size
          have BA1 := Lib.hid b1a
          have c1a : (w1.alloc (.cells #[] 96)).cell? ⟨h, 0, none⟩ = some (.slice _ _ _) := O1a.out.host.cell 0
          clear b1a
          go_wp2_with (at_builtin; refine app_any stMb rfl (.tmp 32) (.tmp 38) rfl w.heap.size (.slice (some ⟨w1.heap.size, 0, none⟩) 0 0) 0 [] rfl L1.out _ _ _ (flatB (ms.take p)) rfl RD1.out (flatB_one _) (by omega) (by omega) hz1a ?_; intro v2 w2 own2 gr2 at2 bel2; (simp only [Nat.zero_add, List.nil_append] at own2); obtain ⟨A2, c2, rfl⟩ := own_slice own2)
          have B2 := Lib.hid (BA1.out.trans bel2)
          have O2 := Lib.hid (HO.out.nx B2.out)
          have L2 := Lib.hid own2
          have z2 := B2.out.size
          clear own2 gr2 at2 bel2
          refine (DK.out _).mono ?_
          rintro e w' ⟨rfl, rfl⟩
          go_wp2_with fail
          refine (laterK now dl _ h0 hdl0 (by omega)).mono ?_
          rintro e w' ⟨rfl, rfl⟩
          have b2a := B2.out.alloc z2 (.cells #[.int .u32 a, .bool true, .int .i64 (now + dl), .bool true] 96)
          have L2a := Lib.hid (own_nx L2.out (al (rf _) (.cells #[.int .u32 a, .bool true, .int .i64 (now + dl), .bool true] 96)))
          have z2a := b2a.size
          have B2a := Lib.hid b2a
          clear b2a
          go_wp2_with (first
            | (at_builtin
               refine app_any stMb rfl (.tmp 40) (.tmp 48) rfl w.heap.size _ _ _ rfl L2a.out _ 1 1 [.int .u32 a, .bool true, .int .i64 (now + dl), .bool true] rfl ⟨rfl, fun _ => ⟨_, rfl, by simp, fun j u hj => ?csa1⟩⟩ (by intro u hu; simp at hu; rcases hu with rfl | rfl | rfl | rfl <;> rfl) (by omega) (by omega) z2a ?_
               case csa1 => (match j, hj with | 0, hj => (cases hj; exact (Blk.new _ _ _).cell 0) | 1, hj => (cases hj; exact (Blk.new _ _ _).cell 1) | 2, hj => (cases hj; exact (Blk.new _ _ _).cell 2) | 3, hj => (cases hj; exact (Blk.new _ _ _).cell 3))
               intro v3 w3 own3 gr3 at3 bel3
               obtain ⟨A3, c3, rfl⟩ := own_slice own3
               have B3 := Lib.hid (B2a.out.trans bel3)
               have O3 := Lib.hid (HO.out.nx B3.out)
               have c3h : w3.cell? ⟨h, 0, none⟩ = some (.slice _ _ _) := O3.out.host.cell 0
               have z3 := B3.out.size
               have RD3 := Lib.hid (reads_drop' (OwnB.reads O3.out.own) HN.out hple hnc))
            | (at_builtin
               refine app_any stMb rfl (.tmp 51) (.tmp 57) rfl w.heap.size _ _ _ rfl own3 _ _ _ (flatB (ms.drop p)) rfl (by have h9 := RD3.out; rw [cut_nil] at h9; exact h9) (flatB_one _) (by omega) (by omega) z3 ?_
               intro v4 w4 own4 gr4 at4 bel4
               have e1 : flatB (ms.take p ++ (⟨a, true, now + dl, true⟩ : Mb) :: ms.drop p) = flatB (ms.take p) ++ [.int .u32 a, .bool true, .int .i64 (now + dl), .bool true] ++ flatB (ms.drop p) := (by rw [flatB_app, List.append_assoc]; rfl)
               have e2 : (ms.take p ++ (⟨a, true, now + dl, true⟩ : Mb) :: ms.drop p).length = p + 1 + (n - p) := (by rw [List.length_append, List.length_take, List.length_cons, List.length_drop, HN.out, Nat.min_eq_left hple]; omega)
               have own5 : w4.ownsRow w.heap.size 96 4 v4 (ms.take p ++ (⟨a, true, now + dl, true⟩ : Mb) :: ms.drop p).length (flatB (ms.take p ++ (⟨a, true, now + dl, true⟩ : Mb) :: ms.drop p)) := (by rw [e1, e2]; exact own4)
               obtain ⟨N, hNN⟩ : ∃ N, (ms.take p ++ (⟨a, true, now + dl, true⟩ : Mb) :: ms.drop p).length = N := ⟨_, rfl⟩
               rw [hNN] at own5
               obtain ⟨A4, c4, rfl⟩ := own_slice own5
               have HNN := Lib.hid hNN
               have OWN5 := Lib.hid own5
               clear e1 e2 hNN own4 own5
               have B4 := Lib.hid (B3.out.trans bel4)
               have O4 := Lib.hid (HO.out.nx B4.out)
               have c4h : w4.cell? ⟨h, 0, none⟩ = some (.slice _ _ _) := O4.out.host.cell 0
               have f4 := O4.out.host.frozen 0)
            | fail)
          refine bodyPost_ret (results_tmp2 rfl _ _ _) rfl ?_
          have hs5 : KeepT w4.heap.size [59] w4 (w4.setCell ⟨h, 0, none⟩ (.slice A4 N c4)) := KeepT.of_set O4.out.host _ (.inr (by simp)) (Nat.le_refl _)
          have hb5 : Below B w4 (w4.setCell ⟨h, 0, none⟩ (.slice A4 N c4)) := (Below.refl B w4).setCell (p := ⟨h, 0, none⟩) HO.out.hb _
          have hz5 : w.heap.size ≤ (w4.setCell ⟨h, 0, none⟩ (.slice A4 N c4)).heap.size := by have := hb5.size; have := B4.out.size; omega
          have I5 : IsRh (w4.setCell ⟨h, 0, none⟩ (.slice A4 N c4)) B h (ms.take p ++ (⟨a, true, now + dl, true⟩ : Mb) :: ms.drop p) (.slice A4 N c4) := by
            refine ⟨by simpa using O4.out.host.set_ 0 _, ?_, HO.out.hb⟩
            have h9 := hs5.own OWN5.out (by decide)
            unfold OwnB
            rw [HNN.out]
            exact own_base h9 hB
          exact ⟨_, _, _, rfl, own_lit _ #[.int .i64 22, .int .i64 0, .int .u32 a] 1 (by simp) (by simpa using hz5) (by unfold maxLen; omega) rfl, I5.nx (al (rf _) _), HFIN.out dl HDL.out, ((B4.out.mono hB).trans hb5).trans ((al (rf _) _).mono (by omega)), ((KeepT.of_below B4.out (Nat.le_refl _)).trans ((hs5.mono (by simp)).less B4.out.size)).trans (KeepT.of_below (al (rf _) _) hz5)⟩
        · subst hpc
          go_enter Try.func45, Try.ntmps45
          go_wp2_with fail
          refine HF.out.mono ?_
          rintro e w1 ⟨rfl, b1⟩
          have O1 := Lib.hid (HO.out.nx b1)
          have c1 : w1.cell? ⟨h, 0, none⟩ = some (.slice _ _ _) := O1.out.host.cell 0
          have z1 := b1.size
          have BW1 := Lib.hid b1
          clear b1 HF
          have b1a : Below w.heap.size w (w1.alloc (.cells #[] 96)) := BW1.out.alloc z1 _
          have L1 : Hid ((w1.alloc (.cells #[] 96)).ownsRow w.heap.size 96 4 (.slice (some ⟨w1.heap.size, 0, none⟩) 0 0) 0 []) := own_lit w1 #[] 0 rfl z1 (by decide) rfl
          have O1a := Lib.hid (HO.out.nx b1a)
          have RD1 := Lib.hid (reads_take (OwnB.reads O1a.out.own) (p := p) (by rw [HN.out]; exact hple))
          have hz1a := b1a.size
          have BA1 := Lib.hid b1a
          have c1a : (w1.alloc (.cells #[] 96)).cell? ⟨h, 0, none⟩ = some (.slice _ _ _) := O1a.out.host.cell 0
          clear b1a
          go_wp2_with (at_builtin; refine app_any stMb rfl (.tmp 32) (.tmp 38) rfl w.heap.size (.slice (some ⟨w1.heap.size, 0, none⟩) 0 0) 0 [] rfl L1.out _ _ _ (flatB (ms.take p)) rfl RD1.out (flatB_one _) (by omega) (by omega) hz1a ?_; intro v2 w2 own2 gr2 at2 bel2; (simp only [Nat.zero_add, List.nil_append] at own2); obtain ⟨A2, c2, rfl⟩ := own_slice own2)
          have B2 := Lib.hid (BA1.out.trans bel2)
          have O2 := Lib.hid (HO.out.nx B2.out)
          have L2 := Lib.hid own2
          have z2 := B2.out.size
          clear own2 gr2 at2 bel2
          refine (DK.out _).mono ?_
          rintro e w' ⟨rfl, rfl⟩
          go_wp2_with fail
          refine (laterK now dl _ h0 hdl0 (by omega)).mono ?_
          rintro e w' ⟨rfl, rfl⟩
          have b2a := B2.out.alloc z2 (.cells #[.int .u32 a, .bool true, .int .i64 (now + dl), .bool true] 96)
          have L2a := Lib.hid (own_nx L2.out (al (rf _) (.cells #[.int .u32 a, .bool true, .int .i64 (now + dl), .bool true] 96)))
          have z2a := b2a.size
          have B2a := Lib.hid b2a
          clear b2a
          go_wp2_with (first
            | (at_builtin
               refine app_any stMb rfl (.tmp 40) (.tmp 48) rfl w.heap.size _ _ _ rfl L2a.out _ 1 1 [.int .u32 a, .bool true, .int .i64 (now + dl), .bool true] rfl ⟨rfl, fun _ => ⟨_, rfl, by simp, fun j u hj => ?csa2⟩⟩ (by intro u hu; simp at hu; rcases hu with rfl | rfl | rfl | rfl <;> rfl) (by omega) (by omega) z2a ?_
               case csa2 => (match j, hj with | 0, hj => (cases hj; exact (Blk.new _ _ _).cell 0) | 1, hj => (cases hj; exact (Blk.new _ _ _).cell 1) | 2, hj => (cases hj; exact (Blk.new _ _ _).cell 2) | 3, hj => (cases hj; exact (Blk.new _ _ _).cell 3))
               intro v3 w3 own3 gr3 at3 bel3
               obtain ⟨A3, c3, rfl⟩ := own_slice own3
               have B3 := Lib.hid (B2a.out.trans bel3)
               have O3 := Lib.hid (HO.out.nx B3.out)
               have c3h : w3.cell? ⟨h, 0, none⟩ = some (.slice _ _ _) := O3.out.host.cell 0
               have z3 := B3.out.size
               have RD3 := Lib.hid (reads_drop' (OwnB.reads O3.out.own) HN.out hple hnc))
            | (at_builtin
               refine app_any stMb rfl (.tmp 51) (.tmp 57) rfl w.heap.size _ _ _ rfl own3 _ _ _ (flatB (ms.drop p)) rfl (by have h9 := RD3.out; rw [cut_eq, show n - p = 0 by omega] at h9; exact h9) (flatB_one _) (by omega) (by omega) z3 ?_
               intro v4 w4 own4 gr4 at4 bel4
               have e1 : flatB (ms.take p ++ (⟨a, true, now + dl, true⟩ : Mb) :: ms.drop p) = flatB (ms.take p) ++ [.int .u32 a, .bool true, .int .i64 (now + dl), .bool true] ++ flatB (ms.drop p) := (by rw [flatB_app, List.append_assoc]; rfl)
               have e2 : (ms.take p ++ (⟨a, true, now + dl, true⟩ : Mb) :: ms.drop p).length = p + 1 + (n - p) := (by rw [List.length_append, List.length_take, List.length_cons, List.length_drop, HN.out, Nat.min_eq_left hple]; omega)
               have own5 : w4.ownsRow w.heap.size 96 4 v4 (ms.take p ++ (⟨a, true, now + dl, true⟩ : Mb) :: ms.drop p).length (flatB (ms.take p ++ (⟨a, true, now + dl, true⟩ : Mb) :: ms.drop p)) := (by rw [e1, e2]; (rw [show n - p = 0 by omega]; exact own4))
               obtain ⟨N, hNN⟩ : ∃ N, (ms.take p ++ (⟨a, true, now + dl, true⟩ : Mb) :: ms.drop p).length = N := ⟨_, rfl⟩
               rw [hNN] at own5
               obtain ⟨A4, c4, rfl⟩ := own_slice own5
               have HNN := Lib.hid hNN
               have OWN5 := Lib.hid own5
               clear e1 e2 hNN own4 own5
               have B4 := Lib.hid (B3.out.trans bel4)
               have O4 := Lib.hid (HO.out.nx B4.out)
               have c4h : w4.cell? ⟨h, 0, none⟩ = some (.slice _ _ _) := O4.out.host.cell 0
               have f4 := O4.out.host.frozen 0)
            | fail)
          refine bodyPost_ret (results_tmp2 rfl _ _ _) rfl ?_
          have hs5 : KeepT w4.heap.size [59] w4 (w4.setCell ⟨h, 0, none⟩ (.slice A4 N c4)) := KeepT.of_set O4.out.host _ (.inr (by simp)) (Nat.le_refl _)
          have hb5 : Below B w4 (w4.setCell ⟨h, 0, none⟩ (.slice A4 N c4)) := (Below.refl B w4).setCell (p := ⟨h, 0, none⟩) HO.out.hb _
          have hz5 : w.heap.size ≤ (w4.setCell ⟨h, 0, none⟩ (.slice A4 N c4)).heap.size := by have := hb5.size; have := B4.out.size; omega
          have I5 : IsRh (w4.setCell ⟨h, 0, none⟩ (.slice A4 N c4)) B h (ms.take p ++ (⟨a, true, now + dl, true⟩ : Mb) :: ms.drop p) (.slice A4 N c4) := by
            refine ⟨by simpa using O4.out.host.set_ 0 _, ?_, HO.out.hb⟩
            have h9 := hs5.own OWN5.out (by decide)
            unfold OwnB
            rw [HNN.out]
            exact own_base h9 hB
          exact ⟨_, _, _, rfl, own_lit _ #[.int .i64 22, .int .i64 0, .int .u32 a] 1 (by simp) (by simpa using hz5) (by unfold maxLen; omega) rfl, I5.nx (al (rf _) _), HFIN.out dl HDL.out, ((B4.out.mono hB).trans hb5).trans ((al (rf _) _).mono (by omega)), ((KeepT.of_below B4.out (Nat.le_refl _)).trans ((hs5.mono (by simp)).less B4.out.size)).trans (KeepT.of_below (al (rf _) _) hz5)⟩
        · go_enter Try.func45, Try.ntmps45
          go_wp2_with fail
          refine HF.out.mono ?_
          rintro e w1 ⟨rfl, b1⟩
          have O1 := Lib.hid (HO.out.nx b1)
          have c1 : w1.cell? ⟨h, 0, none⟩ = some (.slice _ _ _) := O1.out.host.cell 0
          have z1 := b1.size
          have BW1 := Lib.hid b1
          clear b1 HF
          have b1a : Below w.heap.size w (w1.alloc (.cells #[] 96)) := BW1.out.alloc z1 _
          have L1 : Hid ((w1.alloc (.cells #[] 96)).ownsRow w.heap.size 96 4 (.slice (some ⟨w1.heap.size, 0, none⟩) 0 0) 0 []) := own_lit w1 #[] 0 rfl z1 (by decide) rfl
          have O1a := Lib.hid (HO.out.nx b1a)
          have RD1 := Lib.hid (reads_take (OwnB.reads O1a.out.own) (p := p) (by rw [HN.out]; exact hple))
          have hz1a := b1a.size
          have BA1 := Lib.hid b1a
          have c1a : (w1.alloc (.cells #[] 96)).cell? ⟨h, 0, none⟩ = some (.slice _ _ _) := O1a.out.host.cell 0
          clear b1a
          go_wp2_with (at_builtin; refine app_any stMb rfl (.tmp 32) (.tmp 38) rfl w.heap.size (.slice (some ⟨w1.heap.size, 0, none⟩) 0 0) 0 [] rfl L1.out _ _ _ (flatB (ms.take p)) rfl RD1.out (flatB_one _) (by omega) (by omega) hz1a ?_; intro v2 w2 own2 gr2 at2 bel2; (simp only [Nat.zero_add, List.nil_append] at own2); obtain ⟨A2, c2, rfl⟩ := own_slice own2)
          have B2 := Lib.hid (BA1.out.trans bel2)
          have O2 := Lib.hid (HO.out.nx B2.out)
          have L2 := Lib.hid own2
          have z2 := B2.out.size
          clear own2 gr2 at2 bel2
          refine (DK.out _).mono ?_
          rintro e w' ⟨rfl, rfl⟩
          go_wp2_with fail
          refine (laterK now dl _ h0 hdl0 (by omega)).mono ?_
          rintro e w' ⟨rfl, rfl⟩
          have b2a := B2.out.alloc z2 (.cells #[.int .u32 a, .bool true, .int .i64 (now + dl), .bool true] 96)
          have L2a := Lib.hid (own_nx L2.out (al (rf _) (.cells #[.int .u32 a, .bool true, .int .i64 (now + dl), .bool true] 96)))
          have z2a := b2a.size
          have B2a := Lib.hid b2a
          clear b2a
          go_wp2_with (first
            | (at_builtin
               refine app_any stMb rfl (.tmp 40) (.tmp 48) rfl w.heap.size _ _ _ rfl L2a.out _ 1 1 [.int .u32 a, .bool true, .int .i64 (now + dl), .bool true] rfl ⟨rfl, fun _ => ⟨_, rfl, by simp, fun j u hj => ?csa3⟩⟩ (by intro u hu; simp at hu; rcases hu with rfl | rfl | rfl | rfl <;> rfl) (by omega) (by omega) z2a ?_
               case csa3 => (match j, hj with | 0, hj => (cases hj; exact (Blk.new _ _ _).cell 0) | 1, hj => (cases hj; exact (Blk.new _ _ _).cell 1) | 2, hj => (cases hj; exact (Blk.new _ _ _).cell 2) | 3, hj => (cases hj; exact (Blk.new _ _ _).cell 3))
               intro v3 w3 own3 gr3 at3 bel3
               obtain ⟨A3, c3, rfl⟩ := own_slice own3
               have B3 := Lib.hid (B2a.out.trans bel3)
               have O3 := Lib.hid (HO.out.nx B3.out)
               have c3h : w3.cell? ⟨h, 0, none⟩ = some (.slice _ _ _) := O3.out.host.cell 0
               have z3 := B3.out.size
               have RD3 := Lib.hid (reads_drop' (OwnB.reads O3.out.own) HN.out hple hnc))
            | (at_builtin
               refine app_any stMb rfl (.tmp 51) (.tmp 57) rfl w.heap.size _ _ _ rfl own3 _ _ _ (flatB (ms.drop p)) rfl (by have h9 := RD3.out; rw [cut_some hcp] at h9; exact h9) (flatB_one _) (by omega) (by omega) z3 ?_
               intro v4 w4 own4 gr4 at4 bel4
               have e1 : flatB (ms.take p ++ (⟨a, true, now + dl, true⟩ : Mb) :: ms.drop p) = flatB (ms.take p) ++ [.int .u32 a, .bool true, .int .i64 (now + dl), .bool true] ++ flatB (ms.drop p) := (by rw [flatB_app, List.append_assoc]; rfl)
               have e2 : (ms.take p ++ (⟨a, true, now + dl, true⟩ : Mb) :: ms.drop p).length = p + 1 + (n - p) := (by rw [List.length_append, List.length_take, List.length_cons, List.length_drop, HN.out, Nat.min_eq_left hple]; omega)
               have own5 : w4.ownsRow w.heap.size 96 4 v4 (ms.take p ++ (⟨a, true, now + dl, true⟩ : Mb) :: ms.drop p).length (flatB (ms.take p ++ (⟨a, true, now + dl, true⟩ : Mb) :: ms.drop p)) := (by rw [e1, e2]; exact own4)
               obtain ⟨N, hNN⟩ : ∃ N, (ms.take p ++ (⟨a, true, now + dl, true⟩ : Mb) :: ms.drop p).length = N := ⟨_, rfl⟩
               rw [hNN] at own5
               obtain ⟨A4, c4, rfl⟩ := own_slice own5
               have HNN := Lib.hid hNN
               have OWN5 := Lib.hid own5
               clear e1 e2 hNN own4 own5
               have B4 := Lib.hid (B3.out.trans bel4)
               have O4 := Lib.hid (HO.out.nx B4.out)
               have c4h : w4.cell? ⟨h, 0, none⟩ = some (.slice _ _ _) := O4.out.host.cell 0
               have f4 := O4.out.host.frozen 0)
            | fail)
          refine bodyPost_ret (results_tmp2 rfl _ _ _) rfl ?_
          have hs5 : KeepT w4.heap.size [59] w4 (w4.setCell ⟨h, 0, none⟩ (.slice A4 N c4)) := KeepT.of_set O4.out.host _ (.inr (by simp)) (Nat.le_refl _)
          have hb5 : Below B w4 (w4.setCell ⟨h, 0, none⟩ (.slice A4 N c4)) := (Below.refl B w4).setCell (p := ⟨h, 0, none⟩) HO.out.hb _
          have hz5 : w.heap.size ≤ (w4.setCell ⟨h, 0, none⟩ (.slice A4 N c4)).heap.size := by have := hb5.size; have := B4.out.size; omega
          have I5 : IsRh (w4.setCell ⟨h, 0, none⟩ (.slice A4 N c4)) B h (ms.take p ++ (⟨a, true, now + dl, true⟩ : Mb) :: ms.drop p) (.slice A4 N c4) := by
            refine ⟨by simpa using O4.out.host.set_ 0 _, ?_, HO.out.hb⟩
            have h9 := hs5.own OWN5.out (by decide)
            unfold OwnB
            rw [HNN.out]
            exact own_base h9 hB
          exact ⟨_, _, _, rfl, own_lit _ #[.int .i64 22, .int .i64 0, .int .u32 a] 1 (by simp) (by simpa using hz5) (by unfold maxLen; omega) rfl, I5.nx (al (rf _) _), HFIN.out dl HDL.out, ((B4.out.mono hB).trans hb5).trans ((al (rf _) _).mono (by omega)), ((KeepT.of_below B4.out (Nat.le_refl _)).trans ((hs5.mono (by simp)).less B4.out.size)).trans (KeepT.of_below (al (rf _) _) hz5)⟩
end Go.Proofs.Ytjkmkafceeblpaa
