/-
  slices.BinarySearchFunc over rows of structs that are sorted by a key. Printed by gen_bsf.py.
-/
import Derived.Test.YtmboadgmhafedaaRtE
import Derived.Test.YtmboadgmhafedaaSlR
set_option linter.unusedVariables false
namespace Go.Proofs.Ytmboadgmhafedaa
open Go.RowKit

theorem cs_len (r : R4) : r.cs.length = 4 := rfl
def flat (ws : List R4) : List Value := ws.flatMap R4.cs
theorem flat_len (ws : List R4) : (flat ws).length = ws.length * 4 := by
  induction ws with
  | nil => rfl
  | cons r ws ih => unfold flat at ih ⊢; rw [List.flatMap_cons, List.length_append, ih, cs_len, List.length_cons]; omega
theorem flat_at {ws : List R4} {i : Nat} {r : R4} (h : ws[i]? = some r) (j : Nat) (hj : j < 4) : (flat ws)[i * 4 + j]? = r.cs[j]? := by
  induction ws generalizing i with
  | nil => simp at h
  | cons q ws ih =>
    unfold flat at ih ⊢
    rw [List.flatMap_cons]
    cases i with
    | zero =>
      simp only [List.getElem?_cons_zero, Option.some.injEq] at h
      subst h
      rw [Nat.zero_mul, Nat.zero_add, List.getElem?_append_left (by rw [cs_len]; exact hj)]
    | succ i =>
      rw [List.getElem?_cons_succ] at h
      rw [List.getElem?_append_right (by rw [cs_len]; omega), cs_len, show (i + 1) * 4 + j - 4 = i * 4 + j by omega]
      exact ih h
theorem flat_take (ws : List R4) (i : Nat) : (flat ws).take (i * 4) = flat (ws.take i) := by
  induction ws generalizing i with
  | nil => simp [flat]
  | cons q ws ih =>
    cases i with
    | zero => simp [flat]
    | succ i =>
      unfold flat at ih ⊢
      rw [List.take_succ_cons, List.flatMap_cons, List.flatMap_cons, List.take_append, List.take_of_length_le (by rw [cs_len]; omega), cs_len, show (i + 1) * 4 - 4 = i * 4 by omega, ih]
theorem flat_drop (ws : List R4) (i : Nat) : (flat ws).drop (i * 4) = flat (ws.drop i) := by
  induction ws generalizing i with
  | nil => simp [flat]
  | cons q ws ih =>
    cases i with
    | zero => simp [flat]
    | succ i =>
      unfold flat at ih ⊢
      rw [List.drop_succ_cons, List.flatMap_cons, List.drop_append, List.drop_eq_nil_of_le (by rw [cs_len]; omega), cs_len, show (i + 1) * 4 - 4 = i * 4 by omega, ih, List.nil_append]
theorem flat_app (a b : List R4) : flat (a ++ b) = flat a ++ flat b := by simp [flat]
theorem flat_one (ws : List R4) : ∀ u ∈ flat ws, u.oneCell' = true := fun u hu => by
  obtain ⟨r, _, hr⟩ := List.mem_flatMap.1 hu
  simp only [R4.cs, List.mem_cons, List.not_mem_nil, or_false] at hr
  rcases hr with rfl | rfl | rfl | rfl <;> rfl
theorem insK_flat (ws : List R4) (r : R4) (i : Nat) : insK (flat ws) r.cs i = flat (ws.take i ++ r :: ws.drop i) := by
  unfold insK
  rw [flat_take, flat_drop, flat_app, List.append_assoc]
  rfl
theorem delK_flat (ws : List R4) (i : Nat) : delK (flat ws) i = flat (ws.take i ++ ws.drop (i + 1)) := by
  unfold delK
  rw [flat_take, flat_drop, flat_app]
-- a row of one's own that holds such a list
def OwnL (w : World) (base : Nat) (v : Value) (ws : List R4) : Prop := w.ownsRow base 36 4 v ws.length (flat ws)
theorem OwnL.nx {w w' : World} {base : Nat} {v : Value} {ws : List R4} (h : OwnL w base v ws) (k : Below w.heap.size w w') : OwnL w' base v ws := own_nx h k
theorem OwnL.at_ {w : World} {base : Nat} {v : Value} {ws : List R4} (h : OwnL w base v ws) {i : Nat} {r : R4} (hi : ws[i]? = some r) : ∃ g c, v = .slice (some ⟨g, 0, none⟩) ws.length c ∧ ws.length ≤ c ∧ base ≤ g ∧ g < w.heap.size ∧ ∀ j u, r.cs[j]? = some u → w.cell? ⟨g, i * 4 + j, none⟩ = some u := by
  have hlt : i < ws.length := (List.getElem?_eq_some_iff.1 hi).1
  rcases h.2 with ⟨_, h0⟩ | ⟨g, c, cur, rfl, hb, hg, hnc, hcm, hcl, htk⟩
  · omega
  · refine ⟨g, c, rfl, hnc, hb, Blk.lt hg, fun j u hu => ?_⟩
    have hj : j < 4 := by rw [← cs_len r]; exact (List.getElem?_eq_some_iff.1 hu).1
    rw [Blk.cell hg]
    have h1 := flat_at hi j hj
    rw [← htk, List.getElem?_take, hu] at h1
    split at h1
    · rw [← Array.getElem?_toList]; exact h1
    · cases h1
theorem OwnL.form {w : World} {base : Nat} {v : Value} {ws : List R4} (h : OwnL w base v ws) : ∃ A c, v = .slice A ws.length c ∧ ws.length ≤ c := by
  rcases h.2 with ⟨rfl, h0⟩ | ⟨g, c, cur, rfl, hb, hg, hnc, _⟩
  · exact ⟨none, 0, by rw [h0], by omega⟩
  · exact ⟨_, c, rfl, hnc⟩
def cmp3 (a b : Int) : Int := if a < b then -1 else if a > b then 1 else 0
theorem nanK (a : Int) (w : World) : Calls Try.prog 37 #[.int .i64 a] w fun e w' => e = .returned (.bool false) ∧ w' = w := by
  have h : ((a : Int) != a) = false := by simp
  go_enter Try.func37, Try.ntmps37
  go_wp2
  go_ret
  exact ⟨rfl, rfl⟩
theorem cmpK (a b : Int) (w : World) : Calls Try.prog 26 #[.int .i64 a, .int .i64 b] w fun e w' => e = .returned (.int .i64 (cmp3 a b)) ∧ w' = w := by
  have hc : (a < b ∧ cmp3 a b = -1) ∨ ((¬ a < b ∧ b < a) ∧ cmp3 a b = 1) ∨ ((¬ a < b ∧ ¬ b < a) ∧ cmp3 a b = 0) := by
    unfold cmp3
    by_cases h1 : a < b
    · exact .inl ⟨h1, if_pos h1⟩
    · by_cases h2 : b < a
      · exact .inr (.inl ⟨⟨h1, h2⟩, by rw [if_neg h1, if_pos h2]⟩)
      · exact .inr (.inr ⟨⟨h1, h2⟩, by rw [if_neg h1, if_neg h2]⟩)
  rcases hc with ⟨h1, h2⟩ | ⟨⟨h0, h1⟩, h2⟩ | ⟨⟨h0, h1⟩, h2⟩
  all_goals
    rw [h2]
    clear h2
    go_enter Try.func26, Try.ntmps26
    go_wp2_with fail
    refine (nanK a _).mono ?_
    rintro e w' ⟨rfl, rfl⟩
    go_wp2_with fail
    refine (nanK b _).mono ?_
    rintro e w' ⟨rfl, rfl⟩
    go_wp2
    go_ret
    exact ⟨rfl, rfl⟩
theorem fnK (r : R4) (k : Int) (w : World) : Calls Try.prog 33 #[.agg r.cs.toArray, .int .i64 k] w fun e w' => e = .returned (.int .i64 (cmp3 (R4.u r) k)) ∧ Below w.heap.size w w' := by
  unfold R4.cs
  go_enter Try.func33, Try.ntmps33
  go_wp2_with fail
  refine (cmpK (R4.u r) k _).mono ?_
  rintro e w' ⟨rfl, rfl⟩
  go_wp2
  go_ret
  exact ⟨rfl, al (rf w) _⟩
def posL (ws : List R4) (k : Int) : Nat := (ws.takeWhile (fun r => decide (R4.u r < k))).length
def hitL (ws : List R4) (k : Int) : Bool := ws.any (fun r => R4.u r == k)
theorem posL_eq {ws : List R4} {k : Int} {lo : Nat} (hlo : lo ≤ ws.length) (h1 : ∀ (t : Nat) (r : R4), ws[t]? = some r → t < lo → R4.u r < k) (h2 : ∀ (t : Nat) (r : R4), ws[t]? = some r → lo ≤ t → k ≤ R4.u r) : posL ws k = lo := by
  unfold posL
  induction ws generalizing lo with
  | nil => simp at hlo; simp [hlo]
  | cons r ws ih =>
    cases lo with
    | zero =>
      have := h2 0 r rfl (Nat.le_refl _)
      rw [List.takeWhile_cons, if_neg (by simp; omega)]
      rfl
    | succ lo =>
      have := h1 0 r rfl (by omega)
      rw [List.takeWhile_cons, if_pos (by simpa using this), List.length_cons, ih (by simp at hlo; omega) (fun t q ht hl => h1 (t + 1) q (by rw [List.getElem?_cons_succ]; exact ht) (by omega)) (fun t q ht hl => h2 (t + 1) q (by rw [List.getElem?_cons_succ]; exact ht) (by omega))]
def SortL (ws : List R4) : Prop := ∀ (s t : Nat) (r q : R4), ws[s]? = some r → ws[t]? = some q → s < t → R4.u r < R4.u q
theorem hitL_yes {ws : List R4} {k : Int} {t : Nat} {r : R4} (h : ws[t]? = some r) (hk : R4.u r = k) : hitL ws k = true := by
  unfold hitL
  rw [List.any_eq_true]
  exact ⟨r, List.mem_of_getElem? h, by simpa using hk⟩
theorem hitL_no {ws : List R4} {k : Int} (h : ∀ (t : Nat) (r : R4), ws[t]? = some r → R4.u r ≠ k) : hitL ws k = false := by
  unfold hitL
  rw [List.any_eq_false]
  intro r hr
  obtain ⟨t, ht⟩ := List.getElem?_of_mem hr
  simpa using h t r ht
def fnKV : Value := .func (Fn.func 33) #[] #[]
set_option maxRecDepth 10000 in
set_option maxHeartbeats 1600000 in
theorem bsfK (w : World) (base : Nat) (v : Value) (ws : List R4) (k : Int) (hown : OwnL w base v ws) (hs : SortL ws) (hn : ws.length ≤ 1000000) :
    Calls Try.prog 32 #[v, .int .i64 k, fnKV] w fun e w' => e = .returned (.tuple #[.int .i64 (posL ws k), .bool (hitL ws k)]) ∧ Below w.heap.size w w' := by
  obtain ⟨A, c, rfl, hnc⟩ := hown.form
  have HO := Lib.hid hown
  have HS := Lib.hid hs
  obtain ⟨n, hnn⟩ : ∃ n, ws.length = n := ⟨_, rfl⟩
  rw [hnn] at hn hnc HO ⊢
  have HN := Lib.hid hnn
  clear hown hs hnn
  unfold fnKV
  go_enter Try.func32, Try.ntmps32
  go_wp2
  go_loopw [9, 10] (fun i j wr => ∃ lo hi : Nat, i = .int .i64 lo ∧ j = .int .i64 hi ∧ lo ≤ hi ∧ hi ≤ n ∧ Hid ((∀ (t : Nat) (r : R4), ws[t]? = some r → t < lo → R4.u r < k) ∧ (∀ (t : Nat) (r : R4), ws[t]? = some r → hi ≤ t → k ≤ R4.u r)) ∧ Hid (Below w.heap.size w wr)) (fun i j _ => (intOf j - intOf i).toNat)
  case atStart => exact ⟨0, n, rfl, rfl, Nat.zero_le _, Nat.le_refl _, ⟨fun t r _ h => absurd h (Nat.not_lt_zero _), fun t r h hl => by have := (List.getElem?_eq_some_iff.1 h).1; have := HN.out; omega⟩, rf w⟩
  case round =>
    obtain ⟨lo, hi, rfl, rfl, hlh, hin, I, BE⟩ := hrel
    by_cases hlt : lo < hi
    · obtain ⟨mid, hmid⟩ : ∃ mid, (lo + hi) / 2 = mid := ⟨_, rfl⟩
      have hm1 : lo ≤ mid := by omega
      have hm2 : mid < hi := by omega
      have hmi : ((lo : Int) + hi) / 2 = mid := by omega
      obtain ⟨r, hr⟩ : ∃ r, ws[mid]? = some r := ⟨_, List.getElem?_eq_getElem (by have := HN.out; omega)⟩
      have OX := HO.out
      obtain ⟨g, c', hv, _, _, hgl, hcell⟩ := (show OwnL wr base _ ws from by have := HN.out; subst this; exact OwnL.nx OX BE.out).at_ hr
      injection hv with hv1 hv2 hv3
      subst hv1
      have c0 : wr.cell? ⟨g, mid * 4, none⟩ = some (.int .u32 r.x) := hcell 0 _ rfl
      have c1 : wr.cell? ⟨g, mid * 4 + 1, none⟩ = some (.int .i64 r.y) := hcell 1 _ rfl
      have c2 : wr.cell? ⟨g, mid * 4 + 2, none⟩ = some (.int .u32 r.z) := hcell 2 _ rfl
      have c3 : wr.cell? ⟨g, mid * 4 + 3, none⟩ = some (.int .i64 r.u) := hcell 3 _ rfl
      have m0 : (0 : Int) ≤ mid := by omega
      have m1 : (mid : Int) < n := by omega
      have l0 : (lo : Int) < hi := by omega
      have w1 : IntKind.i64.wrap ((lo : Int) + hi) = lo + hi := by rw [IntKind.wrap_i64]; omega
      have w2 : IntKind.u64.wrap ((lo : Int) + hi) = lo + hi := by rw [IntKind.wrap_u64]; omega
      have HM := Lib.hid hmid
      have HR := Lib.hid hr
      have HNC := Lib.hid hnc
      have zb := BE.out.size
      clear hmid hr hcell OX hv2 hv3 hnc
      go_wp2_with fail
      refine (fnK r k _).mono ?_
      rintro e w' ⟨rfl, b1⟩
      have BN := Lib.hid (nx BE.out b1)
      clear b1
      by_cases hk : R4.u r < k
      · have hc3 : cmp3 (R4.u r) k = -1 := if_pos hk
        rw [hc3]
        have HK := Lib.hid hk
        clear hk hc3
        go_wp2
        go_roundw
        case rel => exact ⟨mid + 1, hi, by go_num, rfl, by omega, hin, ⟨fun t q ht hl => by
          by_cases hte : t = mid
          · subst hte; have := HR.out; rw [ht] at this; injection this with this; subst this; exact HK.out
          · have := HS.out t mid q r ht HR.out (by omega); have := HK.out; omega, I.out.2⟩, BN.out⟩
        case measure => simp [intOf]; omega
      · have hc3 : ¬ cmp3 (R4.u r) k < 0 := by unfold cmp3; rw [if_neg hk]; split <;> omega
        generalize cmp3 (R4.u r) k = x3 at hc3 ⊢
        have HK := Lib.hid hk
        clear hk
        go_wp2
        go_roundw
        case rel => exact ⟨lo, mid, rfl, rfl, hm1, by omega, ⟨I.out.1, fun t q ht hl => by
          by_cases hte : t = mid
          · subst hte; have := HR.out; rw [ht] at this; injection this with this; subst this; have := HK.out; omega
          · have := HS.out mid t r q HR.out ht (by omega); have := HK.out; omega⟩, BN.out⟩
        case measure => simp [intOf]; omega
    · obtain rfl : lo = hi := by omega
      have hpos : posL ws k = lo := posL_eq (by have := HN.out; omega) I.out.1 I.out.2
      have HP := Lib.hid hpos
      clear hpos
      by_cases hln : lo < n
      · obtain ⟨r, hr⟩ : ∃ r, ws[lo]? = some r := ⟨_, List.getElem?_eq_getElem (by have := HN.out; omega)⟩
        have OX := HO.out
        obtain ⟨g, c', hv, _, _, hgl, hcell⟩ := (show OwnL wr base _ ws from by have := HN.out; subst this; exact OwnL.nx OX BE.out).at_ hr
        injection hv with hv1 hv2 hv3
        subst hv1
        have c0 : wr.cell? ⟨g, lo * 4, none⟩ = some (.int .u32 r.x) := hcell 0 _ rfl
        have c1 : wr.cell? ⟨g, lo * 4 + 1, none⟩ = some (.int .i64 r.y) := hcell 1 _ rfl
        have c2 : wr.cell? ⟨g, lo * 4 + 2, none⟩ = some (.int .u32 r.z) := hcell 2 _ rfl
        have c3 : wr.cell? ⟨g, lo * 4 + 3, none⟩ = some (.int .i64 r.u) := hcell 3 _ rfl
        have m0 : (0 : Int) ≤ lo := by omega
        have m1 : (lo : Int) < n := by omega
        have hge := I.out.2 lo r hr (Nat.le_refl _)
        have HR := Lib.hid hr
        have zb := BE.out.size
        clear hr hcell OX hv2 hv3
        go_wp2_with fail
        refine (fnK r k _).mono ?_
        rintro e w' ⟨rfl, b1⟩
        have BN := Lib.hid (nx BE.out b1)
        clear b1
        by_cases hk : R4.u r = k
        · have hh : hitL ws k = true := hitL_yes HR.out hk
          have hc3 : cmp3 (R4.u r) k = 0 := by unfold cmp3; rw [if_neg (by omega), if_neg (by omega)]
          rw [hc3]
          have HH := Lib.hid hh
          clear hh hc3 hk hge
          go_wp2
          refine bodyPost_ret (results_tmp2 rfl _ _ _) rfl ?_
          exact ⟨by rw [HP.out, HH.out]; rfl, BN.out⟩
        · have hh : hitL ws k = false := hitL_no fun t q ht hq => by
            by_cases htl : t < lo
            · have := I.out.1 t q ht htl; omega
            · by_cases hte : t = lo
              · subst hte; have := HR.out; rw [ht] at this; injection this with this; subst this; exact hk hq
              · have := HS.out lo t r q HR.out ht (by omega); omega
          have hc3 : cmp3 (R4.u r) k = 1 := by unfold cmp3; rw [if_neg (by omega), if_pos (by omega)]
          rw [hc3]
          have HH := Lib.hid hh
          clear hh hc3 hk hge
          go_wp2
          refine bodyPost_ret (results_tmp2 rfl _ _ _) rfl ?_
          exact ⟨by rw [HP.out, HH.out]; rfl, BN.out⟩
      · have hh : hitL ws k = false := hitL_no fun t q ht hq => by
          have := (List.getElem?_eq_some_iff.1 ht).1
          have := HN.out
          have := I.out.1 t q ht (by omega)
          omega
        have HH := Lib.hid hh
        clear hh
        go_wp2
        refine bodyPost_ret (results_tmp2 rfl _ _ _) rfl ?_
        exact ⟨by rw [HP.out, HH.out]; rfl, BE.out⟩
end Go.Proofs.Ytmboadgmhafedaa
