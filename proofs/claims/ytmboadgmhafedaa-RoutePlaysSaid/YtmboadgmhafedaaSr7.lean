/-
  slices.SortStableFunc at routes, 7: blocks; the whole.
-/
import Derived.Test.YtmboadgmhafedaaSr6
set_option linter.unusedVariables false
namespace Go.Proofs.Ytmboadgmhafedaa
open Go.RowKit

inductive Chk (k : Nat) : List R4 → Prop
  | last (r : List R4) : Srt r → r.length < k → Chk k r
  | cons (c L : List R4) : Srt c → c.length = k → Chk k L → Chk k (c ++ L)
inductive ChkE (k : Nat) : List R4 → Prop
  | nil : ChkE k []
  | snoc (P c : List R4) : ChkE k P → Srt c → c.length = k → ChkE k (P ++ c)
theorem ChkE.app {k : Nat} {P r : List R4} (h : ChkE k P) (hr : Chk k r) : Chk k (P ++ r) := by
  induction h generalizing r with
  | nil => exact hr
  | snoc P c _ hs hl ih => rw [List.append_assoc]; exact ih (.cons c r hs hl hr)
theorem chk_ge {k : Nat} {L : List R4} (h : Chk k L) (hl : k ≤ L.length) : ∃ c L', L = c ++ L' ∧ Srt c ∧ c.length = k ∧ Chk k L' := by
  cases h with
  | last r hs hr => omega
  | cons c L' hs hc h' => exact ⟨c, L', rfl, hs, hc, h'⟩
theorem chk_le {k : Nat} {L : List R4} (h : Chk k L) (hl : L.length ≤ k) : Srt L := by
  cases h with
  | last r hs hr => exact hs
  | cons c L' hs hc h' =>
    rw [List.length_append] at hl
    have : L' = [] := List.eq_nil_of_length_eq_zero (by omega)
    rw [this, List.append_nil]
    exact hs
set_option maxRecDepth 10000 in
set_option maxHeartbeats 6400000 in
theorem stableK (w : World) {B g n c : Nat} {L : List R4} (o : OwnL w B (.slice (some ⟨g, 0, none⟩) n c) L) (hn : n ≤ 1000) :
    Calls Try.prog 36 #[.slice (some ⟨g, 0, none⟩) n c, .int .i64 n, cmpV] w fun e w' => SoP w B g n c [] L [] e w' := by
  have hl := o.len
  have HO := Lib.hid o
  have HL := Lib.hid hl
  clear o hl
  unfold cmpV
  go_enter Try.func36, Try.ntmps36
  go_wp2
  go_loopw [7, 8] (fun av bv wr => ∃ (a : Nat) (P Q : List R4), av = .int .i64 a ∧ bv = .int .i64 (a + 20) ∧ a ≤ n ∧ Hid (P.length = a) ∧ Hid (P.length + Q.length = n) ∧ Hid (ChkE 20 P) ∧ Hid (OwnL wr B (.slice (some ⟨g, 0, none⟩) n c) (P ++ Q)) ∧ Hid (Re (P ++ Q) L) ∧ Hid (w.grownBy wr (some g))) (fun av _ _ => (n - intOf av + 20).toNat)
  case atStart => exact ⟨0, [], L, rfl, rfl, Nat.zero_le _, rfl, by show _ = _; simpa using HL.out, .nil, HO.out, Re.refl _, World.grownBy.refl _ _⟩
  case round =>
    obtain ⟨a, P, Q, rfl, rfl, han, LP, LQ, CP, OW, RE, GW⟩ := hrel
    by_cases hb : a + 20 ≤ n
    · have hb2 : (a : Int) + 20 ≤ n := by omega
      obtain ⟨S, Q', rfl, lS, _, _⟩ := cut_two (L := Q) 20 (by have := LP.out; have := LQ.out; omega)
      have C := insSortK wr (A := P) (S := S) (Z := Q') (by have h := OW.out; simpa using h) a (a + 20) LP.out (by omega) hn (by obtain ⟨cur, h, _⟩ := OW.out.base_; exact Blk.lt h)
      have LS := Lib.hid lS
      unfold cmpV at C
      push_cast at C
      have CC := Lib.hid C
      clear C lS
      go_wp2_with fail
      refine CC.out.mono ?_
      rintro e w1 ⟨S', rfl, o1, g1, r1, s1⟩
      have O1 : Hid (OwnL w1 B (.slice (some ⟨g, 0, none⟩) n c) ((P ++ S') ++ Q')) := o1
      have G1 := Lib.hid (only_trans GW.out g1)
      have R1 : Hid (Re ((P ++ S') ++ Q') L) := by
        refine Re.trans ?_ RE.out
        have := r1.ctx P Q'
        simpa using this
      have lS' : S'.length = 20 := by rw [r1.len]; exact LS.out
      have C1 : Hid (ChkE 20 (P ++ S')) := .snoc P S' CP.out s1 lS'
      have L1 : Hid ((P ++ S').length = a + 20) := by show _ = _; rw [List.length_append, LP.out, lS']
      have L2 : Hid ((P ++ S').length + Q'.length = n) := by show _ = _; have h1 := LQ.out; have h2 := LS.out; simp only [List.length_append] at *; omega
      clear o1 g1 r1 s1 lS'
      go_wp2
      go_roundw
      case rel => exact ⟨a + 20, P ++ S', Q', by go_num, by go_num, hb, L1.out, L2.out, C1.out, O1.out, R1.out, G1.out⟩
      case measure => simp [intOf]; omega
    · have hb2 : ¬ (a : Int) + 20 ≤ n := by omega
      have hq : a + Q.length = n := by have := LP.out; have := LQ.out; omega
      have C := insSortK wr (A := P) (S := Q) (Z := []) (by have h := OW.out; simpa using h) a n LP.out hq hn (by obtain ⟨cur, h, _⟩ := OW.out.base_; exact Blk.lt h)
      unfold cmpV at C
      have CC := Lib.hid C
      have HQ := Lib.hid hq
      clear C hq
      go_wp2_with fail
      refine CC.out.mono ?_
      rintro e w1 ⟨S', rfl, o1, g1, r1, s1⟩
      have O1 : Hid (OwnL w1 B (.slice (some ⟨g, 0, none⟩) n c) (P ++ S')) := by have h := o1; rw [List.append_nil] at h; exact h
      have G1 := Lib.hid (only_trans GW.out g1)
      have R1 : Hid (Re (P ++ S') L) := (r1.right P).trans RE.out
      have C1 : Hid (Chk 20 (P ++ S')) := CP.out.app (.last S' s1 (by rw [r1.len]; have := HQ.out; omega))
      clear o1 g1 r1 s1
      go_wp2
      go_loopw [6] (fun bv wr => ∃ (bs : Nat) (M : List R4), bv = .int .i64 bs ∧ 0 < bs ∧ bs ≤ 2000 ∧ Hid (Chk bs M) ∧ Hid (OwnL wr B (.slice (some ⟨g, 0, none⟩) n c) M) ∧ Hid (Re M L) ∧ Hid (w.grownBy wr (some g))) (fun bv _ => (n - intOf bv).toNat)
      case atStart => exact ⟨20, P ++ S', rfl, by omega, by omega, C1.out, O1.out, R1.out, G1.out⟩
      case round =>
        clear LP LQ CP OW RE GW HQ O1 G1 R1 C1 CC
        obtain ⟨bs, M, rfl, hbs, hbs2, CM, OM, RM, GM⟩ := hrel
        by_cases hlt : bs < n
        · have hlt2 : (bs : Int) < n := by omega
          obtain ⟨d, hd⟩ : ∃ d, 2 * bs = d := ⟨_, rfl⟩
          have e1 : (2 : Int) * bs = d := by omega
          have e2 : (bs : Int) * 2 = d := by omega
          have hML := OM.out.len
          have HML := Lib.hid hML
          clear hML
          go_wp2
          go_loopw [7, 8] (fun av bv wr => ∃ (a : Nat) (P Q : List R4), av = .int .i64 a ∧ bv = .int .i64 (a + d) ∧ a ≤ n ∧ Hid (P.length = a) ∧ Hid (P.length + Q.length = n) ∧ Hid (ChkE d P) ∧ Hid (Chk bs Q) ∧ Hid (OwnL wr B (.slice (some ⟨g, 0, none⟩) n c) (P ++ Q)) ∧ Hid (Re (P ++ Q) L) ∧ Hid (w.grownBy wr (some g))) (fun av _ _ => (n - intOf av + d).toNat)
          case atStart => exact ⟨0, [], M, rfl, by go_num, Nat.zero_le _, rfl, by show _ = _; simpa using HML.out, .nil, CM.out, OM.out, RM.out, GM.out⟩
          case round =>
            clear CM OM RM GM HML
            obtain ⟨a, P, Q, rfl, rfl, han, LP, LQ, CP, CQ, OW, RE, GW⟩ := hrel
            by_cases hb : a + d ≤ n
            · have hb2 : (a : Int) + d ≤ n := by omega
              obtain ⟨U, Q1, hQ, sU, lU, CQ1⟩ := chk_ge CQ.out (by have := LP.out; have := LQ.out; omega)
              subst hQ
              obtain ⟨V, Q2, hQ, sV, lV, CQ2⟩ := chk_ge CQ1 (by have h1 := LP.out; have h2 := LQ.out; rw [List.length_append] at h2; omega)
              subst hQ
              have C := symMergeK (U.length + V.length) wr B g n c P U V Q2 (by have h := OW.out; simpa using h) a (a + bs) (a + d) LP.out (by omega) (by omega) sU sV (by intro h; rw [h] at lU; simp at lU; omega) (by intro h; rw [h] at lV; simp at lV; omega) (Nat.le_refl _) hn (by obtain ⟨cur, h, _⟩ := OW.out.base_; exact Blk.lt h)
              unfold cmpV at C
              push_cast at C
              have CC := Lib.hid C
              have LU := Lib.hid lU
              have LV := Lib.hid lV
              have HC2 := Lib.hid CQ2
              clear C lU lV sU sV CQ1 CQ2
              go_wp2_with fail
              refine CC.out.mono ?_
              rintro e w2 ⟨S2, rfl, o2, g2, r2, s2⟩
              have hs2 : S2.length = d := by rw [r2.len, List.length_append, LU.out, LV.out]; omega
              have O2 : Hid (OwnL w2 B (.slice (some ⟨g, 0, none⟩) n c) ((P ++ S2) ++ Q2)) := o2
              have G2 := Lib.hid (only_trans GW.out g2)
              have R2 : Hid (Re ((P ++ S2) ++ Q2) L) := by
                refine Re.trans ?_ RE.out
                have := r2.ctx P Q2
                simpa using this
              have C2 : Hid (ChkE d (P ++ S2)) := .snoc P S2 CP.out s2 hs2
              have L1 : Hid ((P ++ S2).length = a + d) := by show _ = _; rw [List.length_append, LP.out, hs2]
              have L2 : Hid ((P ++ S2).length + Q2.length = n) := by show _ = _; have h1 := LQ.out; have h2 := LU.out; have h3 := LV.out; simp only [List.length_append] at *; omega
              clear o2 g2 r2 s2 hs2
              go_wp2
              go_roundw
              case rel => exact ⟨a + d, P ++ S2, Q2, by go_num, by go_num, hb, L1.out, L2.out, C2.out, HC2.out, O2.out, R2.out, G2.out⟩
              case measure => simp [intOf]; omega
            · have hb2 : ¬ (a : Int) + d ≤ n := by omega
              have hq : a + Q.length = n := by have := LP.out; have := LQ.out; omega
              by_cases hm : a + bs < n
              · have hm2 : (a : Int) + bs < n := by omega
                obtain ⟨U, V, hQ, sU, lU, CQ1⟩ := chk_ge CQ.out (by omega)
                subst hQ
                have lV : a + bs + V.length = n := by rw [List.length_append] at hq; omega
                have C := symMergeK (U.length + V.length) wr B g n c P U V [] (by have h := OW.out; simpa using h) a (a + bs) n LP.out (by omega) lV sU (chk_le CQ1 (by omega)) (by intro h; rw [h] at lU; simp at lU; omega) (by intro h; rw [h] at lV; simp at lV; omega) (Nat.le_refl _) hn (by obtain ⟨cur, h, _⟩ := OW.out.base_; exact Blk.lt h)
                unfold cmpV at C
                push_cast at C
                have CC := Lib.hid C
                have HQ2 := Lib.hid hq
                clear C lU lV sU CQ1 hq
                go_wp2_with fail
                refine CC.out.mono ?_
                rintro e w2 ⟨S2, rfl, o2, g2, r2, s2⟩
                have O2 : Hid (OwnL w2 B (.slice (some ⟨g, 0, none⟩) n c) (P ++ S2)) := by have h := o2; rw [List.append_nil] at h; exact h
                have G2 := Lib.hid (only_trans GW.out g2)
                have R2 : Hid (Re (P ++ S2) L) := (r2.right P).trans RE.out
                have C2 : Hid (Chk d (P ++ S2)) := CP.out.app (.last S2 s2 (by rw [r2.len]; have := HQ2.out; omega))
                clear o2 g2 r2 s2
                go_wp2
                go_roundw
                case rel => exact ⟨d, P ++ S2, by go_num, by omega, by omega, C2.out, O2.out, R2.out, G2.out⟩
                case measure => simp [intOf]; omega
              · have hm2 : ¬ (a : Int) + bs < n := by omega
                have C2 : Hid (Chk d (P ++ Q)) := CP.out.app (.last Q (chk_le CQ.out (by omega)) (by omega))
                clear hq
                go_wp2
                go_roundw
                case rel => exact ⟨d, P ++ Q, by go_num, by omega, by omega, C2.out, OW.out, RE.out, GW.out⟩
                case measure => simp [intOf]; omega
        · have hlt2 : ¬ (bs : Int) < n := by omega
          have hE : SoP w B g n c [] L [] (.returned (.tuple #[])) wr := ⟨M, rfl, by have h := OM.out; simpa using h, GM.out, RM.out, chk_le CM.out (by rw [OM.out.len]; omega)⟩
          have HE := Lib.hid hE
          clear hE
          go_wp2
          go_end0
          exact HE.out
set_option maxHeartbeats 3200000 in
theorem insSort0 (w : World) (v : Value) : Calls Try.prog 39 #[v, .int .i64 0, .int .i64 0, cmpV] w fun e w' => e = .returned (.tuple #[]) ∧ w' = w := by
  unfold cmpV
  go_enter Try.func39, Try.ntmps39
  go_wp2
  go_loopw [8] (fun iv wr => iv = .int .i64 1 ∧ wr = w) (fun iv _ => 0)
  case atStart => exact ⟨rfl, rfl⟩
  case round =>
    obtain ⟨rfl, rfl⟩ := hrel
    go_wp2
    go_end0
    exact ⟨rfl, rfl⟩
set_option maxHeartbeats 3200000 in
theorem stable0 (w : World) (v : Value) : Calls Try.prog 36 #[v, .int .i64 0, cmpV] w fun e w' => e = .returned (.tuple #[]) ∧ w' = w := by
  have C := Lib.hid (insSort0 w v)
  unfold cmpV at *
  go_enter Try.func36, Try.ntmps36
  go_wp2
  go_loopw [7, 8] (fun av bv wr => av = .int .i64 0 ∧ bv = .int .i64 20 ∧ wr = w) (fun av _ _ => 0)
  case atStart => exact ⟨rfl, rfl, rfl⟩
  case round =>
    obtain ⟨rfl, rfl, rfl⟩ := hrel
    go_wp2_with fail
    refine C.out.mono ?_
    rintro e w1 ⟨rfl, rfl⟩
    go_wp2
    go_loopw [6] (fun bv wr => bv = .int .i64 20 ∧ wr = w1) (fun av _ => 0)
    case atStart => exact ⟨rfl, rfl⟩
    case round =>
      obtain ⟨rfl, rfl⟩ := hrel
      go_wp2
      go_end0
      exact ⟨rfl, rfl⟩
-- slices.SortStableFunc: the row is one of its own; equal keys keep their order
def SsP (w : World) (B : Nat) (v : Value) (L : List R4) (e : Ending) (w' : World) : Prop :=
  ∃ L', e = .returned (.tuple #[]) ∧ OwnL w' B v L' ∧ w.grownBy w' v.ownBlock ∧ Re L' L ∧ Srt L'
set_option maxHeartbeats 3200000 in
theorem sortStableK (w : World) {B : Nat} {v : Value} {L : List R4} (o : OwnL w B v L) (hn : L.length ≤ 1000) :
    Calls Try.prog 24 #[v, cmpV] w fun e w' => SsP w B v L e w' := by
  obtain ⟨A, c, rfl, hnc⟩ := o.form
  obtain ⟨n, hnn⟩ : ∃ n, L.length = n := ⟨_, rfl⟩
  rw [hnn] at o hnc hn ⊢
  by_cases h0 : n = 0
  · subst h0
    obtain rfl : L = [] := List.eq_nil_of_length_eq_zero hnn
    have C := Lib.hid (stable0 w (.slice A 0 c))
    have HE : Hid (SsP w B (.slice A 0 c) [] (.returned (.tuple #[])) w) := ⟨[], rfl, o, World.grownBy.refl _ _, Re.refl _, Srt.nil⟩
    clear o
    unfold cmpV at *
    go_enter Try.func24, Try.ntmps24
    go_wp2_with fail
    refine C.out.mono ?_
    rintro e w1 ⟨rfl, rfl⟩
    go_wp2
    go_end0
    exact HE.out
  · obtain ⟨r, hr⟩ : ∃ r, L[0]? = some r := ⟨_, List.getElem?_eq_getElem (by omega)⟩
    obtain ⟨g, hA, _⟩ := o.cells hr
    subst hA
    have C := Lib.hid (stableK w o hn)
    clear o hr h0 hnn
    unfold cmpV at *
    go_enter Try.func24, Try.ntmps24
    go_wp2_with fail
    refine C.out.mono ?_
    rintro e w1 ⟨S, rfl, o1, g1, r1, s1⟩
    have HE : Hid (SsP w B (.slice (some ⟨g, 0, none⟩) n c) L (.returned (.tuple #[])) w1) := ⟨S, rfl, by simpa using o1, g1, r1, s1⟩
    clear o1 g1 r1 s1
    go_wp2
    go_end0
    exact HE.out
end Go.Proofs.Ytmboadgmhafedaa
