/-
  Names: the program's Encode.
-/
import Derived.Test.YtpfkmmmlocmakaaDoorNmWr
import Derived.Test.YtpfkmmmlocmakaaDoorNmHl
set_option linter.unusedVariables false
namespace Go.Proofs.YtpfkmmmlocmakaaDoor
open Go.RowKit

def dtB (r : Rc) : List UInt8 := if r.t = 5 then pk (lbs r.da) else r.da
def qB (r : Rc) : List UInt8 := hdB r.nm.data.toList r.t r.c
def aB (r : Rc) : List UInt8 := qB r ++ beB r.u.toNat 4 ++ beB (dtB r).length 2 ++ dtB r
def h6 (m : Ms) : List Int := [m.id, m.fl, m.q.length, m.a.length, 0, 0]
def encM (m : Ms) : List UInt8 := (h6 m).flatMap (fun v => beB v.toNat 2) ++ m.q.flatMap qB ++ m.a.flatMap aB
structure QOk (r : Rc) : Prop where
  nm : isN r.nm.data.toList = true
  t0 : 0 ≤ r.t
  t1 : r.t ≤ 65535
  c0 : 0 ≤ r.c
  c1 : r.c ≤ 65535
structure AOk (r : Rc) : Prop extends QOk r where
  u0 : 0 ≤ r.u
  u1 : r.u ≤ 2147483647
  da : r.t = 5 → isN r.da = true
structure MOk (m : Ms) : Prop where
  i0 : 0 ≤ m.id
  i1 : m.id ≤ 65535
  f0 : 0 ≤ m.fl
  f1 : m.fl ≤ 65535
  ql : m.q.length ≤ 64
  al : m.a.length ≤ 64
  q : ∀ r ∈ m.q, QOk r
  a : ∀ r ∈ m.a, AOk r
theorem any_f {l : List Rc} {p : Rc → Bool} (h : ¬ l.any p = true) : ∀ r ∈ l, p r = false := fun r hr => by
  cases hp : p r with
  | false => rfl
  | true => exact absurd (List.any_eq_true.2 ⟨r, hr, hp⟩) h
theorem badR_f {t c u : Int} {q : Bool} (h : badR t c u q = false) : 0 ≤ t ∧ t ≤ 65535 ∧ 0 ≤ c ∧ c ≤ 65535 ∧ (q = false → 0 ≤ u ∧ u ≤ 2147483647) := by
  unfold badR at h
  simp only [Bool.or_eq_false_iff, decide_eq_false_iff_not, Bool.and_eq_false_iff, Bool.not_eq_false'] at h
  obtain ⟨⟨⟨⟨h1, h2⟩, h3⟩, h4⟩, h5⟩ := h
  refine ⟨by omega, by omega, by omega, by omega, fun hq => ?_⟩
  rcases h5 with h5 | ⟨h5, h6⟩
  · rw [hq] at h5; cases h5
  · omega
theorem mok_of {m : Ms} (h : wrongI m = 0) : MOk m := by
  unfold wrongI at h
  split at h
  · omega
  rename_i h1
  split at h
  · omega
  rename_i h2
  split at h
  · omega
  rename_i h3
  have g : ∀ v, ¬ goodV v = false → 0 ≤ v ∧ v ≤ 65535 := fun v hv => by
    unfold goodV at hv
    simpa using hv
  have a1 := g m.id (fun e => h1 (.inl e))
  have a2 := g m.fl (fun e => h1 (.inr (.inl e)))
  have b1 := any_f (fun e => h2 (.inl e))
  have b2 := any_f (fun e => h2 (.inr e))
  have c1 := any_f (fun e => h3 (.inl e))
  have c2 := any_f (fun e => h3 (.inr e))
  have hQ : ∀ (r : Rc) (q : Bool), badR r.t r.c r.u q = false → nmBad r q = false → QOk r := fun r q hb hn => by
    obtain ⟨x1, x2, x3, x4, _⟩ := badR_f hb
    unfold nmBad at hn
    simp only [Bool.or_eq_false_iff, Bool.not_eq_false'] at hn
    exact ⟨hn.1, x1, x2, x3, x4⟩
  refine ⟨a1.1, a1.2, a2.1, a2.2, by omega, by omega, fun r hr => hQ r true (b1 r hr) (c1 r hr), fun r hr => ?_⟩
  obtain ⟨_, _, _, _, x5⟩ := badR_f (b2 r hr)
  have hn := c2 r hr
  unfold nmBad at hn
  simp only [Bool.or_eq_false_iff, Bool.not_eq_false', Bool.and_eq_false_iff, Bool.not_false, Bool.true_and] at hn
  refine ⟨hQ r false (b2 r hr) (c2 r hr), (x5 rfl).1, (x5 rfl).2, fun h5 => ?_⟩
  rcases hn.2 with hh | hh
  · simp [h5] at hh
  · simpa using hh
theorem qB_len {r : Rc} (h : QOk r) : (qB r).length ≤ 259 := by
  have := pk_lbs_len h.nm
  unfold qB hdB
  simp [beB_len]
  omega
theorem dtB_len {r : Rc} (h : AOk r) (hd : r.da.length ≤ 3000) : (dtB r).length ≤ 3000 := by
  unfold dtB
  split
  · rename_i h5
    have := pk_lbs_len (h.da h5)
    omega
  · exact hd
theorem aB_len {r : Rc} (h : AOk r) (hd : r.da.length ≤ 3000) : (aB r).length ≤ 3265 := by
  have h1 := qB_len h.toQOk
  have h2 := dtB_len h hd
  unfold aB
  simp [beB_len]
  omega
theorem flat_len {l : List Rc} {f : Rc → List UInt8} (h : ∀ r ∈ l, (f r).length ≤ 3265) : (l.flatMap f).length ≤ l.length * 3265 := by
  induction l with
  | nil => simp
  | cons r l ih =>
    have h1 := h r (List.mem_cons_self ..)
    have h2 := ih fun r hr => h r (List.mem_cons_of_mem _ hr)
    rw [List.flatMap_cons, List.length_append, List.length_cons]
    omega
theorem take_flat {α : Type} {l : List α} {f : α → List UInt8} {k : Nat} {r : α} (h : l[k]? = some r) : (l.take k).flatMap f ++ f r = (l.take (k + 1)).flatMap f := by
  have hk := (List.getElem?_eq_some_iff.1 h).1
  have he := (List.getElem?_eq_some_iff.1 h).2
  rw [List.take_succ_eq_append_getElem hk, List.flatMap_append, he]
  simp
theorem MaxL.below {w w' : World} {B : Nat} (h : MaxL w) (k : Below B w w') (hB : 0 < B) : MaxL w' := by
  obtain ⟨m, hm⟩ := h
  exact ⟨m, (k.cell (p := ⟨0, 0, none⟩) hB).trans hm⟩
theorem IsL.more {w w' : World} {B b g : Nat} {X : List Kp} {l : List UInt8} {T : TypeId} {R : Array Value} (h : IsL w B b X l) (k : Below w.heap.size w w') (hg : w.heap.size ≤ g) (hb : Blk w' g T R) : IsL w' B b (⟨g, T, R⟩ :: X) l := by
  obtain ⟨hB, hxb, hX, v, hbb, hown, hne, hnx⟩ := h.nx k
  have hv : ∀ i, v.ownBlock = some i → i < w.heap.size := fun i hi => by
    obtain ⟨_, _, _, v', hb', ho', _⟩ := h
    have e : v' = v := by
      have h1 := (hb'.nx k).cell 0
      have h2 := hbb.cell 0
      rw [h1] at h2
      simpa using h2
    subst e
    exact (ho'.lt i hi).2
  have hbl : b < w.heap.size := by
    obtain ⟨_, _, _, v', hb', _⟩ := h
    exact hb'.lt
  refine ⟨hB, fun p hp => ?_, fun p hp => ?_, v, hbb, hown, hne, fun p hp => ?_⟩
  · rcases List.mem_cons.1 hp with rfl | hp
    · show g ≠ b; omega
    · exact hxb p hp
  · rcases List.mem_cons.1 hp with rfl | hp
    · exact hb
    · exact hX p hp
  · rcases List.mem_cons.1 hp with rfl | hp
    · intro e; have := hv g e; omega
    · exact hnx p hp
theorem flat2_len (l : List Int) : (l.flatMap fun v => beB v.toNat 2).length = 2 * l.length := by
  induction l with
  | nil => rfl
  | cons v l ih => rw [List.flatMap_cons, List.length_append, ih, beB_len, List.length_cons]; omega
def EncP (m : Ms) (w : World) (e : Ending) (w' : World) : Prop :=
  (wrongI m = 0 ∧ ∃ A c, e = .returned (.tuple #[.slice A (encM m).length c, .int .i64 0]) ∧ w'.ownsRow w.heap.size 5 1 (.slice A (encM m).length c) (encM m).length (Lib.byteCells (encM m)) ∧ Below w.heap.size w w') ∨
  (wrongI m ≠ 0 ∧ e = .returned (.tuple #[.slice none 0 0, .int .i64 (wrongI m)]) ∧ Below w.heap.size w w')
set_option maxRecDepth 100000 in
set_option maxHeartbeats 6400000 in
theorem encNC (w : World) (M : Ms) (h : IsM w M) (hm : MaxL w) : Calls Tryd.prog 15 #[.agg #[.int .i64 M.id, .int .i64 M.fl, .slice M.Q M.q.length M.n, .slice M.A M.a.length M.m]] w (EncP M w) := by
  obtain ⟨Qa, hQa⟩ : ∃ Qa, M.Q = Qa := ⟨_, rfl⟩
  obtain ⟨Aa, hAa⟩ : ∃ Aa, M.A = Aa := ⟨_, rfl⟩
  have HQA := Lib.hid hQa
  have HAA := Lib.hid hAa
  rw [hQa, hAa]
  clear hQa hAa
  have X0 := Lib.hid (Blk.new w 43 #[.int .i64 M.id, .int .i64 M.fl, .slice Qa M.q.length M.n, .slice Aa M.a.length M.m])
  have B0 := Lib.hid (al (rf w) (.cells #[.int .i64 M.id, .int .i64 M.fl, .slice Qa M.q.length M.n, .slice Aa M.a.length M.m] 43))
  have HM0 := Lib.hid (h.nx B0.out)
  have HL0 := Lib.hid (hm.nx B0.out)
  have hql := h.ql
  have hal := h.al
  clear h hm
  go_enter Tryd.func15, Tryd.ntmps15
  have HWC := wrongC _ M HM0.out HL0.out
  rw [HQA.out, HAA.out] at HWC
  go_wp2_with fail
  refine HWC.mono ?_
  rintro e W ⟨rfl, b1⟩
  have X1 := Lib.hid (X0.out.nx b1)
  have HB1 := Lib.hid (nx B0.out b1)
  have HM := Lib.hid (HM0.out.nx b1)
  have HL := Lib.hid (HL0.out.nx b1)
  clear b1 HM0 HL0 X0 B0
  by_cases hz : wrongI M = 0
  rotate_left
  · obtain ⟨z, hzz⟩ : ∃ z, z = wrongI M := ⟨_, rfl⟩
    rw [← hzz] at hz ⊢
    have HZ := Lib.hid hzz
    have HNZ := Lib.hid hz
    have r1 : ((z : Int) != 0) = true := by rw [bne_iff_ne]; exact hz
    clear hz hzz
    go_wp2
    go_ret2
    exact .inr ⟨by rw [← HZ.out]; exact HNZ.out, by rw [← HZ.out]; rfl, HB1.out⟩
  have OK := Lib.hid (mok_of hz)
  have HZ := Lib.hid hz
  rw [hz]
  have hq64 := OK.out.ql
  have ha64 := OK.out.al
  have hw0 := X1.out.lt
  have i0 := OK.out.i0
  have i1 := OK.out.i1
  have f0 := OK.out.f0
  have f1 := OK.out.f1
  have HWN : Hid (IsW (W.alloc (.cells #[.slice none 0 0] 93)) W.heap.size W.heap.size []) := IsW.new W rfl (Nat.le_refl _)
  have HBW : Hid (Below W.heap.size W (W.alloc (.cells #[.slice none 0 0] 93))) := al (rf W) _
  have C : Hid (∀ wr, Below W.heap.size W wr → Blk wr w.heap.size 43 #[.int .i64 M.id, .int .i64 M.fl, .slice Qa M.q.length M.n, .slice Aa M.a.length M.m]) := fun wr k => X1.out.nx k
  have x0 : (W.alloc (.cells #[.slice none 0 0] 93)).cell? ⟨w.heap.size, 0, none⟩ = some (.int .i64 M.id) := (C.out _ HBW.out).cell 0
  have x1 : (W.alloc (.cells #[.slice none 0 0] 93)).cell? ⟨w.heap.size, 1, none⟩ = some (.int .i64 M.fl) := (C.out _ HBW.out).cell 1
  have x2 : (W.alloc (.cells #[.slice none 0 0] 93)).cell? ⟨w.heap.size, 2, none⟩ = some (.slice Qa M.q.length M.n) := (C.out _ HBW.out).cell 2
  have x3 : (W.alloc (.cells #[.slice none 0 0] 93)).cell? ⟨w.heap.size, 3, none⟩ = some (.slice Aa M.a.length M.m) := (C.out _ HBW.out).cell 3
  clear hz
  go_wp2
  clear x0 x1 x2 x3
  go_loopw [30] (fun iv wr => ∃ i : Nat, iv = .int .i64 i ∧ i ≤ 6 ∧ Hid (Below W.heap.size W wr) ∧ Hid (IsL wr W.heap.size W.heap.size [] (((h6 M).take i).flatMap fun v => beB v.toNat 2))) (fun iv _ => 6 - (intOf iv).toNat)
  case atStart => exact ⟨0, rfl, by omega, HBW.out, HWN.out.isL⟩
  case round =>
    obtain ⟨i, rfl, hi, HB, HI⟩ := hrel
    by_cases hlt : i < 6
    · obtain ⟨v, hv⟩ : ∃ v, (h6 M)[i]? = some v := ⟨_, List.getElem?_eq_getElem (show i < (h6 M).length from hlt)⟩
      have hv2 : 0 ≤ v ∧ v ≤ 65535 := by
        have := List.mem_of_getElem? hv
        simp only [h6, List.mem_cons, List.not_mem_nil, or_false] at this
        omega
      have hv0 := hv2.1
      have hv1 := hv2.2
      have hix : ∀ w : World, (Instr.index 94 (.agg #[.int .i64 M.id, .int .i64 M.fl, .int .i64 M.q.length, .int .i64 M.a.length, .int .i64 0, .int .i64 0]) (.int .i64 i)).run Tryd.prog w = .ok (.int .i64 v) w := fun w => run_index_arr Tryd.underlying94 (fun w => by kernel_rfl) (fun w => by kernel_rfl) _ .i64 i hlt _ (by
        have e : (#[.int .i64 M.id, .int .i64 M.fl, .int .i64 M.q.length, .int .i64 M.a.length, .int .i64 0, .int .i64 0] : Array Value) = ((h6 M).map (Value.int .i64)).toArray := rfl
        rw [e, List.getElem?_toArray, List.getElem?_map, hv]; rfl) w
      have i1 : (i : Int) < 6 := by omega
      have HT := Lib.hid (take_flat (f := fun v : Int => beB v.toNat 2) hv)
      have hlen : (((h6 M).take i).flatMap fun v => beB v.toNat 2).length ≤ 1000 := by
        rw [flat2_len, List.length_take]
        have : (h6 M).length = 6 := rfl
        omega
      clear hv hv2
      go_wp2_with fail
      refine (wtwoL _ _ [] _ v HI.out hv0 (by omega) (by omega) HB.out.size).mono ?_
      rintro e w3 ⟨rfl, hk, b3⟩
      rw [HT.out] at hk
      have HI3 := Lib.hid hk
      have HB3 := Lib.hid (HB.out.trans b3)
      clear hk b3 hix
      go_wp2
      go_roundw
      case rel => exact ⟨i + 1, by go_num, by omega, HB3.out, HI3.out⟩
      case measure => simp [intOf]; omega
    · have hi6 : i = 6 := by omega
      subst hi6
      have HI6 : Hid (IsL wr W.heap.size W.heap.size [] ((h6 M).flatMap fun v => beB v.toNat 2)) := HI.out
      have x2 := (C.out wr HB.out).cell 2
      have x3 := (C.out wr HB.out).cell 3
      simp only [List.getElem?_toArray, List.getElem?_cons_zero, List.getElem?_cons_succ] at x2 x3
      go_wp2
      have hpre : ((h6 M).flatMap fun v => beB v.toNat 2).length = 12 := by rw [flat2_len]; rfl
      obtain ⟨pre, hpr⟩ : ∃ pre, pre = (h6 M).flatMap fun v => beB v.toNat 2 := ⟨_, rfl⟩
      rw [← hpr] at HI6 hpre
      have HPR := Lib.hid hpr
      have HBQ := Lib.hid HB.out
      clear hpr HI HB x2 x3 hlt hi
      go_loopw [40] (fun kv wr => ∃ k : Nat, kv = .int .i64 k ∧ k ≤ M.q.length ∧ Hid (Below W.heap.size W wr) ∧ Hid (IsL wr W.heap.size W.heap.size [] (pre ++ (M.q.take k).flatMap qB))) (fun kv _ => M.q.length - (intOf kv).toNat)
      case atStart => exact ⟨0, rfl, by omega, HBQ.out, by rw [List.take_zero, List.flatMap_nil, List.append_nil]; exact HI6.out⟩
      case round =>
        obtain ⟨k, rfl, hk, HB, HI⟩ := hrel
        by_cases hlt : k < M.q.length
        · skip
          obtain ⟨r, hr⟩ : ∃ r, M.q[k]? = some r := ⟨_, List.getElem?_eq_getElem hlt⟩
          obtain ⟨ad, hAd, hadb, hcell⟩ := rows_rc (HM.out.nx HB.out).q hr
          rw [HQA.out] at hAd
          subst hAd
          have HCELL : Hid (∀ j u, ([.string r.nm, .int .i64 r.t, .int .i64 r.c, .int .i64 r.u, .slice r.A r.da.length r.k] : List Value)[j]? = some u → wr.cell? ((ad.add (k * 5)).add j) = some u) := hcell
          have HRC := Lib.hid hr
          have HRK := Lib.hid (OK.out.q r (List.mem_of_getElem? hr))
          obtain ⟨hby, hdk, hd3, hn3⟩ := (HM.out.nx HB.out).qr r (List.mem_of_getElem? hr)
          have HBY := Lib.hid hby
          have HB0 : Hid (Below W.heap.size W (wr.alloc (.cells #[.string r.nm, .int .i64 r.t, .int .i64 r.c, .int .i64 r.u, .slice r.A r.da.length r.k] 48))) := HB.out.alloc HB.out.size _
          have hsz := HB0.out.size
          have hsz2 := HB.out.size
          have k1 : (k : Int) < M.q.length := by omega
          have k0 : (0 : Int) ≤ k := by omega
          clear hcell hr hadb hby
          have HT := Lib.hid (take_flat (f := qB) HRC.out)
          have hlen : (pre ++ (M.q.take k).flatMap qB).length ≤ 1000000 := by
            have h1 := flat_len (l := M.q.take k) (f := qB) (fun r hr => Nat.le_trans (qB_len (OK.out.q r (List.mem_of_mem_take hr))) (by decide))
            rw [List.length_take] at h1
            rw [List.length_append]
            omega
          have HIX := Lib.hid (HI.out.nx (al (rf wr) (.cells #[.string r.nm, .int .i64 r.t, .int .i64 r.c, .int .i64 r.u, .slice r.A r.da.length r.k] 48)))
          clear HI
          go_wp2_with (with_reducible refine wpList_load_any rfl 48 (.tmp 42) rfl (ad.add (k * 5)) (by kernel_rfl) [.string r.nm, .int .i64 r.t, .int .i64 r.c, .int .i64 r.u, .slice r.A r.da.length r.k] _ HCELL.out Tryd.underlying48 (by kernel_rfl) (by kernel_rfl) ?_)
          refine (nmEncL _ _ [] _ r.nm r.t r.c r.u (.slice r.A r.da.length r.k) (by omega) (HL.out.below HB0.out (by omega)) HRK.out.nm HRK.out.t0 HRK.out.t1 HRK.out.c0 HRK.out.c1 HIX.out (by omega) hsz).mono ?_
          rintro e w3 ⟨rfl, hk3, b3⟩
          have hk4 : IsL w3 W.heap.size W.heap.size [] (pre ++ (M.q.take (k + 1)).flatMap qB) := by
            rw [← HT.out, ← List.append_assoc]; exact hk3
          have HI3 := Lib.hid hk4
          have HB3 := Lib.hid (HB0.out.trans b3)
          clear hk3 hk4 b3
          go_wp2
          go_roundw
          case rel =>
            (repeat apply Exists.intro)
            refine ⟨?_, rfl⟩
            exact ⟨k + 1, by go_num, by omega, HB3.out, HI3.out⟩
          case measure => simp [intOf]; omega
        · have HIQ : Hid (IsL wr W.heap.size W.heap.size [] (pre ++ M.q.flatMap qB)) := by
            have := HI.out
            rw [List.take_of_length_le (by omega)] at this
            exact this
          have hpq : (pre ++ M.q.flatMap qB).length ≤ 300000 := by
            have h1 := flat_len (l := M.q) (f := qB) (fun r hr => Nat.le_trans (qB_len (OK.out.q r hr)) (by decide))
            rw [List.length_append]
            omega
          have x3 := (C.out wr HB.out).cell 3
          simp only [List.getElem?_toArray, List.getElem?_cons_zero, List.getElem?_cons_succ] at x3
          have HBA := Lib.hid HB.out
          go_wp2
          clear HI HB hlt hk HBQ HI6 x3
          obtain ⟨pq, hpp⟩ : ∃ pq, pq = pre ++ M.q.flatMap qB := ⟨_, rfl⟩
          rw [← hpp] at HIQ hpq
          have HPQ := Lib.hid hpp
          clear hpp
          go_loopw [51] (fun kv wr => ∃ k : Nat, kv = .int .i64 k ∧ k ≤ M.a.length ∧ Hid (Below W.heap.size W wr) ∧ Hid (IsL wr W.heap.size W.heap.size [] (pq ++ (M.a.take k).flatMap aB))) (fun kv _ => M.a.length - (intOf kv).toNat)
          case atStart => exact ⟨0, rfl, by omega, HBA.out, by rw [List.take_zero, List.flatMap_nil, List.append_nil]; exact HIQ.out⟩
          case round =>
            obtain ⟨k, rfl, hk, HB, HI⟩ := hrel
            have hlen : (pq ++ (M.a.take k).flatMap aB).length ≤ 1000000 := by
              have h1 := flat_len (l := M.a.take k) (f := aB) (fun r hr => aB_len (OK.out.a r (List.mem_of_mem_take hr)) ((HM.out.ar r (List.mem_of_mem_take hr)).2.2.1))
              rw [List.length_take] at h1
              rw [List.length_append]
              omega
            by_cases hlt : k < M.a.length
            · skip
              obtain ⟨r, hr⟩ : ∃ r, M.a[k]? = some r := ⟨_, List.getElem?_eq_getElem hlt⟩
              obtain ⟨ad, hAd, hadb, hcell⟩ := rows_rc (HM.out.nx HB.out).a hr
              rw [HAA.out] at hAd
              subst hAd
              have HCELL : Hid (∀ j u, ([.string r.nm, .int .i64 r.t, .int .i64 r.c, .int .i64 r.u, .slice r.A r.da.length r.k] : List Value)[j]? = some u → wr.cell? ((ad.add (k * 5)).add j) = some u) := hcell
              have HRC := Lib.hid hr
              have HRK := Lib.hid (OK.out.a r (List.mem_of_getElem? hr))
              obtain ⟨hby, hdk, hd3, hn3⟩ := (HM.out.nx HB.out).ar r (List.mem_of_getElem? hr)
              have HBY := Lib.hid hby
              have HB0 : Hid (Below W.heap.size W (wr.alloc (.cells #[.string r.nm, .int .i64 r.t, .int .i64 r.c, .int .i64 r.u, .slice r.A r.da.length r.k] 48))) := HB.out.alloc HB.out.size _
              have hsz := HB0.out.size
              have hsz2 := HB.out.size
              have k1 : (k : Int) < M.a.length := by omega
              have k0 : (0 : Int) ≤ k := by omega
              clear hcell hr hadb hby
              have HT := Lib.hid (take_flat (f := aB) HRC.out)
              obtain ⟨l0, hl0⟩ : ∃ l0, l0 = pq ++ (M.a.take k).flatMap aB := ⟨_, rfl⟩
              rw [← hl0] at HI hlen
              have HL0 := Lib.hid hl0
              have HIX := Lib.hid (HI.out.box 48 #[.string r.nm, .int .i64 r.t, .int .i64 r.c, .int .i64 r.u, .slice r.A r.da.length r.k])
              have hqb := qB_len HRK.out.toQOk
              clear HI hl0
              go_wp2_with (with_reducible refine wpList_load_any rfl 48 (.tmp 53) rfl (ad.add (k * 5)) (by kernel_rfl) [.string r.nm, .int .i64 r.t, .int .i64 r.c, .int .i64 r.u, .slice r.A r.da.length r.k] _ HCELL.out Tryd.underlying48 (by kernel_rfl) (by kernel_rfl) ?_)
              refine (nmEncL _ _ _ _ r.nm r.t r.c r.u (.slice r.A r.da.length r.k) (by omega) (HL.out.below HB0.out (by omega)) HRK.out.nm HRK.out.t0 HRK.out.t1 HRK.out.c0 HRK.out.c1 HIX.out (by omega) hsz).mono ?_
              rintro e w3 ⟨rfl, hk3, b3⟩
              have HI3 := Lib.hid hk3
              have HB3 := Lib.hid (HB0.out.trans b3)
              have y1 := (hk3.blk (List.mem_cons_self ..)).cell 1
              have y3 := (hk3.blk (List.mem_cons_self ..)).cell 3
              have y4 := (hk3.blk (List.mem_cons_self ..)).cell 4
              simp only [List.getElem?_toArray, List.getElem?_cons_zero, List.getElem?_cons_succ] at y1 y3 y4
              clear hk3 b3
              have tt0 : (IntKind.u32).wrap r.u = r.u := by
                have h1 := HRK.out.u0
                have h2 := HRK.out.u1
                exact IntWalk.u32_in _ (by omega)
              have HTT := Lib.hid tt0
              have hcv := convStr w3 r.A r.da r.da.length r.k ((HM.out.nx HB3.out).ar r (List.mem_of_getElem? HRC.out)).1 rfl
              by_cases t5 : r.t = 5
              · have r5 : ((r.t : Int) == 5) = true := by rw [beq_iff_eq]; exact t5
                have HDT : Hid (dtB r = pk (lbs r.da)) := by show _ = _; unfold dtB; rw [if_pos t5]
                have HNI := Lib.hid (HRK.out.da t5)
                have hpk := pk_lbs_len (HRK.out.da t5)
                clear t5
                go_wp2_with fail
                refine (packC ⟨r.da.toArray⟩ _ (by show r.da.toArray.size ≤ _; rw [List.size_toArray]; omega) (HL.out.below HB3.out (by omega))).mono ?_
                rintro e w4 (⟨_, A4, k4, rfl, ow4, b4⟩ | ⟨hbad, _, _⟩)
                rotate_left
                · have h2 : isN r.da = false := by simpa using hbad
                  rw [HNI.out] at h2; cases h2
                have e4 : pk (lbs (⟨r.da.toArray⟩ : ByteArray).data.toList) = dtB r := by rw [HDT.out]
                rw [e4] at ow4 ⊢
                have hpos : 0 < (dtB r).length := by rw [HDT.out]; unfold pk; simp
                obtain ⟨g4, cap4, hv4, hg4, hg4l, _, _, cur4, BG4, hcs4, hct4⟩ := own_form ow4 hpos
                injection hv4 with hA4 _ hk4
                subst hA4 hk4
                have HI4 := Lib.hid (HI3.out.more b4 hg4 BG4)
                have HB4 := Lib.hid (HB3.out.trans (b4.mono HB3.out.size))
                have HCT := Lib.hid hct4
                clear ow4 b4 hg4 hg4l BG4 hcs4 hct4 hcv y1 y3 y4
                have hdl : (dtB r).length ≤ 3000 := dtB_len HRK.out hd3
                have y3' := (HI4.out.blk (p := ⟨wr.heap.size, 48, #[.string r.nm, .int .i64 r.t, .int .i64 r.c, .int .i64 r.u, .slice r.A r.da.length r.k]⟩) (by simp)).cell 3
                simp only [List.getElem?_toArray, List.getElem?_cons_zero, List.getElem?_cons_succ] at y3'
                have hsz4 := HB4.out.size
                have hh1 : (l0 ++ hdB r.nm.data.toList r.t r.c).length ≤ 1000300 := by
                  rw [List.length_append]
                  have : (hdB r.nm.data.toList r.t r.c).length ≤ 259 := hqb
                  omega
                go_wp2_with fail
                refine (wfourL _ _ _ _ r.u HI4.out HRK.out.u0 (by have := HRK.out.u1; omega) (by omega) hsz4).mono ?_
                rintro e w5 ⟨rfl, hk5, b5⟩
                have HI5 := Lib.hid hk5
                have HB5 := Lib.hid (HB4.out.trans b5)
                have hsz5 := HB5.out.size
                clear hk5 b5 y3'
                go_wp2_with fail
                refine (wtwoL _ _ _ _ ((dtB r).length : Nat) HI5.out (by omega) (by omega) (by rw [List.length_append, beB_len]; omega) hsz5).mono ?_
                rintro e w6 ⟨rfl, hk6, b6⟩
                have HI6 := Lib.hid hk6
                have HB6 := Lib.hid (HB5.out.trans b6)
                have hsz6 := HB6.out.size
                have hby6 : Bytes w6 (some ⟨g4, 0, none⟩) (dtB r) := by
                  have hB := HI6.out.blk (p := ⟨g4, 5, cur4⟩) (by simp)
                  exact ⟨by rw [byteCells_len, Nat.mul_one], fun _ => ⟨_, rfl, hB.lt, fun j u hu => by
                    have hj : j < (dtB r).length := by have := (List.getElem?_eq_some_iff.1 hu).1; rw [byteCells_len] at this; exact this
                    rw [Addr.add_mid, Nat.zero_add, take_cell hB HCT.out hj]; exact hu⟩⟩
                clear hk6 b6
                go_wp2_with fail
                refine (wrawL _ _ _ _ (dtB r) (some ⟨g4, 0, none⟩) _ k4 HI6.out hby6 rfl (by rw [List.length_append, List.length_append, beB_len, beB_len]; omega) hsz6).mono ?_
                rintro e w7 ⟨rfl, hk7, b7⟩
                have e7 : l0 ++ hdB r.nm.data.toList r.t r.c ++ beB r.u.toNat 4 ++ beB (((dtB r).length : Nat) : Int).toNat 2 ++ dtB r = pq ++ (M.a.take (k + 1)).flatMap aB := by
                  rw [← HT.out, ← List.append_assoc, ← HL0.out]
                  unfold aB qB
                  rw [Int.toNat_natCast]
                  simp only [List.append_assoc]
                rw [e7] at hk7
                have HI7 : Hid (IsL w7 W.heap.size W.heap.size [] (pq ++ (M.a.take (k + 1)).flatMap aB)) := hk7.isW.isL
                have HB7 := Lib.hid (HB6.out.trans b7)
                clear hk7 b7 hby6 e7
                go_wp2
                go_roundw
                case rel =>
                  (repeat apply Exists.intro)
                  refine ⟨?_, rfl⟩
                  exact ⟨k + 1, by go_num, by omega, HB7.out, HI7.out⟩
                case measure => simp [intOf]; omega
              · have r5 : ((r.t : Int) == 5) = false := by rw [beq_eq_false_iff_ne]; exact t5
                have HDT : Hid (dtB r = r.da) := by show _ = _; unfold dtB; rw [if_neg t5]
                have hdn : r.da.length = (dtB r).length := by rw [HDT.out]
                clear t5 hcv
                rw [hdn] at y4
                have hdl : (dtB r).length ≤ 3000 := dtB_len HRK.out hd3
                have y3' := (HI3.out.blk (p := ⟨wr.heap.size, 48, #[.string r.nm, .int .i64 r.t, .int .i64 r.c, .int .i64 r.u, .slice r.A r.da.length r.k]⟩) (by simp)).cell 3
                simp only [List.getElem?_toArray, List.getElem?_cons_zero, List.getElem?_cons_succ] at y3'
                have hsz4 := HB3.out.size
                have hh1 : (l0 ++ hdB r.nm.data.toList r.t r.c).length ≤ 1000300 := by
                  rw [List.length_append]
                  have : (hdB r.nm.data.toList r.t r.c).length ≤ 259 := hqb
                  omega
                go_wp2_with fail
                refine (wfourL _ _ _ _ r.u HI3.out HRK.out.u0 (by have := HRK.out.u1; omega) (by omega) hsz4).mono ?_
                rintro e w5 ⟨rfl, hk5, b5⟩
                have HI5 := Lib.hid hk5
                have HB5 := Lib.hid (HB3.out.trans b5)
                have hsz5 := HB5.out.size
                clear hk5 b5 y3'
                go_wp2_with fail
                refine (wtwoL _ _ _ _ ((dtB r).length : Nat) HI5.out (by omega) (by omega) (by rw [List.length_append, beB_len]; omega) hsz5).mono ?_
                rintro e w6 ⟨rfl, hk6, b6⟩
                have HI6 := Lib.hid hk6
                have HB6 := Lib.hid (HB5.out.trans b6)
                have hsz6 := HB6.out.size
                have hby6 : Bytes w6 r.A (dtB r) := by rw [HDT.out]; exact ((HM.out.nx HB6.out).ar r (List.mem_of_getElem? HRC.out)).1
                clear hk6 b6
                go_wp2_with fail
                refine (wrawL _ _ _ _ (dtB r) r.A _ r.k HI6.out hby6 rfl (by rw [List.length_append, List.length_append, beB_len, beB_len]; omega) hsz6).mono ?_
                rintro e w7 ⟨rfl, hk7, b7⟩
                have e7 : l0 ++ hdB r.nm.data.toList r.t r.c ++ beB r.u.toNat 4 ++ beB (((dtB r).length : Nat) : Int).toNat 2 ++ dtB r = pq ++ (M.a.take (k + 1)).flatMap aB := by
                  rw [← HT.out, ← List.append_assoc, ← HL0.out]
                  unfold aB qB
                  rw [Int.toNat_natCast]
                  simp only [List.append_assoc]
                rw [e7] at hk7
                have HI7 : Hid (IsL w7 W.heap.size W.heap.size [] (pq ++ (M.a.take (k + 1)).flatMap aB)) := hk7.isW.isL
                have HB7 := Lib.hid (HB6.out.trans b7)
                clear hk7 b7 hby6 e7
                go_wp2
                go_roundw
                case rel =>
                  (repeat apply Exists.intro)
                  refine ⟨?_, rfl⟩
                  exact ⟨k + 1, by go_num, by omega, HB7.out, HI7.out⟩
                case measure => simp [intOf]; omega
            · have HIA : Hid (IsL wr W.heap.size W.heap.size [] (encM M)) := by
                have h1 := HI.out
                rw [List.take_of_length_le (by omega), HPQ.out, HPR.out] at h1
                exact h1
              have hle : (encM M).length ≤ 1000000 := by
                have h1 := hlen
                rw [List.take_of_length_le (by omega), HPQ.out, HPR.out] at h1
                exact h1
              have hsz := HB.out.size
              clear HI hlen
              go_wp2_with fail
              refine (wbytes _ _ _ HIA.out.isW (by omega)).mono ?_
              rintro e w4 ⟨v, rfl, hr⟩
              obtain ⟨A4, n4, c4, rfl, hn4⟩ := hr.slice
              obtain rfl : n4 = (encM M).length := hn4.out
              have HR := Lib.hid hr; clear hr hn4
              go_wp2
              refine bodyPost_ret (results_tmp2 rfl _ _ _) rfl ?_
              have hbw : Below w.heap.size w wr := nx HB1.out HB.out
              refine .inl ⟨HZ.out, A4, c4, rfl, own_base HR.out.1 hbw.size, nx hbw HR.out.2⟩
end Go.Proofs.YtpfkmmmlocmakaaDoor
