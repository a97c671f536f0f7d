/-
  Groups, the reference: a Host of members in memory; where a group stands; its delay; Later.
-/
import Derived.Test.YtjkmkafceeblpaaRh0
set_option linter.unusedVariables false
namespace Go.Proofs.Ytjkmkafceeblpaa
open Go.RowKit

def toG (b : Mb) : Gm := ⟨b.g, if b.timed = true then some b.at_ else none, b.ours⟩
structure IsRh (w : World) (B h : Nat) (ms : List Mb) (v : Value) : Prop where
  host : Blk w h 59 #[v]
  own : OwnB w B v ms
  hb : B ≤ h
theorem IsRh.keep {w w' : World} {B h : Nat} {ms : List Mb} {v : Value} {ts : List TypeId} (o : IsRh w B h ms v) (k : KeepT w.heap.size ts w w') (h2 : 59 ∉ ts) (h3 : 96 ∉ ts) : IsRh w' B h ms v :=
  ⟨k.blk_ o.host h2, k.own o.own h3, o.hb⟩
theorem IsRh.nx {w w' : World} {B h : Nat} {ms : List Mb} {v : Value} (o : IsRh w B h ms v) (k : Below w.heap.size w w') : IsRh w' B h ms v :=
  o.keep (KeepT.of_below (ts := []) k (Nat.le_refl _)) (by simp) (by simp)
theorem take_pos {l : List Int} {a : Int} {k : Nat} (hk : k ≤ l.length) (h1 : ∀ (t : Nat) (x : Int), l[t]? = some x → t < k → x < a) (h2 : ∀ (x : Int), l[k]? = some x → ¬ x < a) : (l.takeWhile (fun x => decide (x < a))).length = k := by
  induction l generalizing k with
  | nil => simp at hk; simp [hk]
  | cons y l ih =>
    rw [List.takeWhile_cons]
    cases k with
    | zero =>
      have := h2 y rfl
      rw [if_neg (by simpa using this)]
      rfl
    | succ k =>
      have := h1 0 y rfl (by omega)
      rw [if_pos (by simpa using this), List.length_cons, ih (by simp at hk; omega) (fun t x ht hl => h1 (t + 1) x (by rw [List.getElem?_cons_succ]; exact ht) (by omega)) (fun x hx => h2 x (by rw [List.getElem?_cons_succ]; exact hx))]
theorem hit_yes {gs : List Gm} {a : Int} {k : Nat} (h : (keysG gs)[k]? = some a) : hitG gs a = true := by
  unfold hitG
  rw [List.any_eq_true]
  exact ⟨a, List.mem_of_getElem? h, by simp⟩
theorem hit_no {gs : List Gm} {a : Int} {k : Nat} (hs : SortG gs) (h1 : ∀ (t : Nat) (x : Int), (keysG gs)[t]? = some x → t < k → x < a) (h2 : ∀ (x : Int), (keysG gs)[k]? = some x → a < x) : hitG gs a = false := by
  unfold hitG
  rw [List.any_eq_false]
  intro x hx
  obtain ⟨t, ht⟩ := List.getElem?_of_mem hx
  have hne : x ≠ a := by
    rcases Nat.lt_trichotomy t k with h | h | h
    · have := h1 t x ht h; omega
    · subst h; have := h2 x ht; omega
    · obtain ⟨y, hy⟩ : ∃ y, (keysG gs)[k]? = some y := ⟨_, List.getElem?_eq_getElem (by have := (List.getElem?_eq_some_iff.1 ht).1; omega)⟩
      have := hs k t y x hy ht h
      have := h2 y hy
      omega
  simpa using hne
theorem keys_at {ms : List Mb} {k : Nat} {r : Mb} (h : ms[k]? = some r) : (keysG (ms.map toG))[k]? = some r.g := by
  unfold keysG
  rw [List.getElem?_map, List.getElem?_map, h]
  rfl
theorem keys_len (ms : List Mb) : (keysG (ms.map toG)).length = ms.length := by unfold keysG; rw [List.length_map, List.length_map]
theorem keys_of {ms : List Mb} {k : Nat} {x : Int} (h : (keysG (ms.map toG))[k]? = some x) : ∃ r, ms[k]? = some r ∧ r.g = x := by
  have hl := (List.getElem?_eq_some_iff.1 h).1
  rw [keys_len] at hl
  obtain ⟨r, hr⟩ : ∃ r, ms[k]? = some r := ⟨_, List.getElem?_eq_getElem hl⟩
  rw [keys_at hr] at h
  injection h with h
  exact ⟨r, hr, h⟩
set_option maxRecDepth 10000 in
set_option maxHeartbeats 1600000 in
theorem spotK (w : World) {B h : Nat} {ms : List Mb} {v : Value} (o : IsRh w B h ms v) (hs : SortG (ms.map toG)) (hn : ms.length ≤ 1000) (a : Int) :
    Calls Try.prog 61 #[.pointer (some ⟨h, 0, none⟩), .int .u32 a] w fun e w' => e = .returned (.tuple #[.int .i64 (posG (ms.map toG) a), .bool (hitG (ms.map toG) a)]) ∧ Below w.heap.size w w' := by
  have HO := Lib.hid o
  have HS := Lib.hid hs
  obtain ⟨A, c, hv, hnc⟩ := o.own.form
  obtain ⟨n, hnn⟩ : ∃ n, ms.length = n := ⟨_, rfl⟩
  rw [hnn] at hv hnc hn
  subst hv
  have HN := Lib.hid hnn
  have c0 : w.cell? ⟨h, 0, none⟩ = some (.slice A n c) := o.host.cell 0
  clear o hs hnn
  go_enter Try.func61, Try.ntmps61
  go_wp2
  go_loopw [6] (fun iv wr => ∃ k : Nat, iv = .int .i64 k ∧ k ≤ n ∧ wr = w ∧ Hid (∀ (t : Nat) (x : Int), (keysG (ms.map toG))[t]? = some x → t < k → x < a)) (fun iv _ => n - (intOf iv).toNat)
  case atStart => exact ⟨0, rfl, Nat.zero_le _, rfl, fun t x _ h => absurd h (Nat.not_lt_zero _)⟩
  case round =>
    obtain ⟨k, rfl, hk, rfl, I⟩ := hrel
    by_cases hkn : k < n
    · obtain ⟨r, hr⟩ : ∃ r, ms[k]? = some r := ⟨_, List.getElem?_eq_getElem (by rw [HN.out]; exact hkn)⟩
      have hkey := keys_at hr
      obtain ⟨g, hA, _, d0, _, _, _⟩ := OwnB.cells HO.out.own hr
      subst hA
      have d0d : wr.drew.cell? ⟨g, k * 4, none⟩ = some (.int .u32 r.g) := d0
      have c0d : wr.drew.cell? ⟨h, 0, none⟩ = some (.slice (some ⟨g, 0, none⟩) n c) := c0
      have k0 : (0 : Int) ≤ k := by omega
      have k1 : (k : Int) < n := by omega
      have HK := Lib.hid hkey
      clear hkey hr
      by_cases hlt : r.g < a
      · have HLT := Lib.hid hlt
        go_wp2
        go_roundw
        case rel => exact ⟨k + 1, by go_num, by omega, by first | trivial | rfl, fun t x ht htk => by
          by_cases hte : t = k
          · subst hte; have h1 := HK.out; rw [ht] at h1; injection h1 with h1; have := HLT.out; omega
          · exact I.out t x ht (by omega)⟩
        case measure => simp [intOf]; omega
      · have hpos : posG (ms.map toG) a = k := take_pos (by rw [keys_len, HN.out]; omega) I.out (fun x hx => by rw [HK.out] at hx; injection hx with hx; omega)
        by_cases he : r.g = a
        · have hh : hitG (ms.map toG) a = true := hit_yes (k := k) (by rw [HK.out, he])
          have HP := Lib.hid hpos
          have HH := Lib.hid hh
          have e1 : (r.g == a) = true := by simpa using he
          clear hpos hh he
          go_wp2
          go_region
          go_wp2
          refine bodyPost_ret (results_tmp2 rfl _ _ _) rfl ?_
          exact ⟨by rw [HP.out, HH.out]; rfl, (rf _).drew⟩
        · have hh : hitG (ms.map toG) a = false := hit_no HS.out I.out (fun x hx => by rw [HK.out] at hx; injection hx with hx; omega)
          have HP := Lib.hid hpos
          have HH := Lib.hid hh
          have e1 : (r.g == a) = false := by simpa using he
          clear hpos hh he
          go_wp2
          go_region
          go_wp2
          refine bodyPost_ret (results_tmp2 rfl _ _ _) rfl ?_
          exact ⟨by rw [HP.out, HH.out]; rfl, (rf _).drew⟩
    · obtain rfl : k = n := by omega
      have hnone : (keysG (ms.map toG))[k]? = none := by rw [List.getElem?_eq_none_iff, keys_len, HN.out]; omega
      have hpos : posG (ms.map toG) a = k := take_pos (by rw [keys_len, HN.out]; omega) I.out (fun x hx => by rw [hnone] at hx; cases hx)
      have hh : hitG (ms.map toG) a = false := hit_no (k := k) HS.out I.out (fun x hx => by rw [hnone] at hx; cases hx)
      have HP := Lib.hid hpos
      have HH := Lib.hid hh
      have c0d : wr.drew.cell? ⟨h, 0, none⟩ = some (.slice A k c) := c0
      clear hpos hh hnone
      go_wp2
      go_region
      go_wp2
      refine bodyPost_ret (results_tmp2 rfl _ _ _) rfl ?_
      exact ⟨by rw [HP.out, HH.out]; rfl, (rf _).drew⟩
set_option maxHeartbeats 400000 in
theorem laterK (a x : Int) (w : World) (h0 : 0 ≤ a) (h1 : 0 ≤ x) (h2 : a + x ≤ 9223372036854775807) : Calls Try.prog 62 #[.int .i64 a, .int .i64 x] w fun e w' => e = .returned (.int .i64 (a + x)) ∧ w' = w := by
  have e1 : ¬ a + x < a := by omega
  have e2 : ¬ x < 0 := by omega
  by_cases hx : 0 < x
  · go_enter Try.func62, Try.ntmps62
    go_wp2
    go_ret
    exact ⟨rfl, rfl⟩
  · go_enter Try.func62, Try.ntmps62
    go_wp2
    go_ret
    exact ⟨rfl, rfl⟩
set_option maxHeartbeats 800000 in
theorem delayK (draw most : Int) (i : Nat) (w : World) (m0 : 1 ≤ most) (m1 : most ≤ 255) (hi : i ≤ 1000) (d1 : draw ≤ 9223372036854775807) (d0 : -9223372036854775808 ≤ draw) :
    Calls Try.prog 63 #[.int .i64 draw, .int .i64 i, .int .i64 most] w fun e w' => e = .returned (.int .i64 (1 + (max 0 draw % most + i) % most)) ∧ w' = w := by
  obtain ⟨d, hmx⟩ : ∃ d : Int, max 0 draw = d := ⟨_, rfl⟩
  have hd0 : 0 ≤ d := by omega
  have hd1 : d ≤ 9223372036854775807 := by omega
  obtain ⟨z, hmz⟩ : ∃ z : Int, max 1 most = z := ⟨_, rfl⟩
  have hzm : most = z := by omega
  have hz0 : 1 ≤ z := by omega
  have hz1 : z ≤ 255 := by omega
  obtain ⟨r, hr⟩ : ∃ r : Int, d % z = r := ⟨_, rfl⟩
  have hr0 : 0 ≤ r := by rw [← hr]; exact Int.emod_nonneg _ (by omega)
  have hr1 : r < z := by rw [← hr]; exact Int.emod_lt_of_pos _ (by omega)
  have ht : d.tmod z = r := by rw [Int.tmod_eq_emod_of_nonneg hd0, hr]
  obtain ⟨q, hq⟩ : ∃ q : Int, (r + i) % z = q := ⟨_, rfl⟩
  have hq0 : 0 ≤ q := by rw [← hq]; exact Int.emod_nonneg _ (by omega)
  have hq1 : q < z := by rw [← hq]; exact Int.emod_lt_of_pos _ (by omega)
  have ht2 : (r + i).tmod z = q := by rw [Int.tmod_eq_emod_of_nonneg (by omega), hq]
  have hm0 : ¬ z = 0 := by omega
  have hri0 : 0 ≤ r + (i : Int) := by omega
  have hri1 : r + (i : Int) ≤ 10000 := by omega
  have HV : Hid (1 + (max 0 draw % most + i) % most = 1 + q) := by show _ = _; rw [hmx, hzm, hr, hq]
  clear hzm
  go_enter Try.func63, Try.ntmps63
  go_wp2
  go_ret
  rw [HV.out]
  exact ⟨rfl, rfl⟩
end Go.Proofs.Ytjkmkafceeblpaa
