/-
  Groups: a Host of many groups in memory; where a group stands; when its timer is due.
-/
import Derived.Test.YtjkmkafceeblpaaBsG
import Derived.Test.YtjkmkafceeblpaaKpt
set_option linter.unusedVariables false
namespace Go.Proofs.Ytjkmkafceeblpaa
open Go.RowKit

structure Gm where
  (a : Int)
  (due : Option Int)
  (ours : Bool)
def PtIs (w : World) (p : Option Addr) : Option Int → Prop
  | none => p = none
  | some x => ∃ t, p = some ⟨t, 0, none⟩ ∧ Blk w t 3 #[.int .i64 x]
structure Gmat (w : World) (ws : List Gp) (gs : List Gm) : Prop where
  keys : ws.map Gp.a = gs.map Gm.a
  at_ : ∀ (i : Nat) (r : Gp) (m : Gm), ws[i]? = some r → gs[i]? = some m → r.o = m.ours ∧ PtIs w r.p m.due
theorem Gmat.len {w : World} {ws : List Gp} {gs : List Gm} (h : Gmat w ws gs) : ws.length = gs.length := by
  have := congrArg List.length h.keys
  simpa using this
theorem PtIs.keep {w w' : World} {p : Option Addr} {d : Option Int} {ts : List TypeId} (h : PtIs w p d) (k : KeepT w.heap.size ts w w') (hi : 3 ∉ ts) : PtIs w' p d := by
  cases d with
  | none => exact h
  | some x => obtain ⟨t, h1, h2⟩ := h; exact ⟨t, h1, k.blk_ h2 hi⟩
theorem Gmat.keep {w w' : World} {ws : List Gp} {gs : List Gm} {ts : List TypeId} (h : Gmat w ws gs) (k : KeepT w.heap.size ts w w') (hi : 3 ∉ ts) : Gmat w' ws gs :=
  ⟨h.keys, fun i r m hr hm => ⟨(h.at_ i r m hr hm).1, (h.at_ i r m hr hm).2.keep k hi⟩⟩
theorem Gmat.key {w : World} {ws : List Gp} {gs : List Gm} (h : Gmat w ws gs) {i : Nat} {r : Gp} {m : Gm} (hr : ws[i]? = some r) (hm : gs[i]? = some m) : r.a = m.a := by
  have := congrArg (fun l => l[i]?) h.keys
  simp only [List.getElem?_map, hr, hm, Option.map_some] at this
  injection this
theorem Gmat.has {w : World} {ws : List Gp} {gs : List Gm} (h : Gmat w ws gs) {i : Nat} {m : Gm} (hm : gs[i]? = some m) : ∃ r, ws[i]? = some r := by
  have := (List.getElem?_eq_some_iff.1 hm).1
  exact ⟨_, List.getElem?_eq_getElem (by rw [h.len]; exact this)⟩
-- the Host in block h: its row of groups is one of its own
structure IsHg (w : World) (B h : Nat) (gs : List Gm) (v : Value) (ws : List Gp) : Prop where
  host : Blk w h 40 #[v]
  own : OwnL w B v ws
  mat : Gmat w ws gs
  hb : B ≤ h
theorem IsHg.keep {w w' : World} {B h : Nat} {gs : List Gm} {v : Value} {ws : List Gp} {ts : List TypeId} (o : IsHg w B h gs v ws) (k : KeepT w.heap.size ts w w') (h1 : 3 ∉ ts) (h2 : 40 ∉ ts) (h3 : 77 ∉ ts) : IsHg w' B h gs v ws :=
  ⟨k.blk_ o.host h2, k.own o.own h3, o.mat.keep k h1, o.hb⟩
theorem IsHg.nx {w w' : World} {B h : Nat} {gs : List Gm} {v : Value} {ws : List Gp} (o : IsHg w B h gs v ws) (k : Below w.heap.size w w') : IsHg w' B h gs v ws :=
  o.keep (KeepT.of_below (ts := []) k (Nat.le_refl _)) (by simp) (by simp) (by simp)
def keysG (gs : List Gm) : List Int := gs.map Gm.a
def SortG (gs : List Gm) : Prop := ∀ (s t : Nat) (x y : Int), (keysG gs)[s]? = some x → (keysG gs)[t]? = some y → s < t → x < y
def posG (gs : List Gm) (k : Int) : Nat := ((keysG gs).takeWhile (fun x => decide (x < k))).length
def hitG (gs : List Gm) (k : Int) : Bool := (keysG gs).any (fun x => x == k)
theorem posL_map (ws : List Gp) (k : Int) : posL ws k = ((ws.map Gp.a).takeWhile (fun x => decide (x < k))).length := by
  unfold posL
  rw [List.takeWhile_map, List.length_map]
  rfl
theorem hitL_map (ws : List Gp) (k : Int) : hitL ws k = (ws.map Gp.a).any (fun x => x == k) := by
  unfold hitL
  rw [List.any_map]
  rfl
theorem Gmat.sort {w : World} {ws : List Gp} {gs : List Gm} (h : Gmat w ws gs) (hs : SortG gs) : SortL ws := fun s t r q hr hq hst => by
  unfold SortG keysG at hs
  rw [← h.keys] at hs
  exact hs s t r.a q.a (by rw [List.getElem?_map, hr]; rfl) (by rw [List.getElem?_map, hq]; rfl) hst
theorem posG_le (gs : List Gm) (k : Int) : posG gs k ≤ gs.length := by
  unfold posG
  have := (List.takeWhile_sublist (l := keysG gs) (fun x => decide (x < k))).length_le
  rw [keysG, List.length_map] at this
  exact this
set_option maxHeartbeats 400000 in
theorem findK (w : World) {B h : Nat} {gs : List Gm} {v : Value} {ws : List Gp} (o : IsHg w B h gs v ws) (hs : SortG gs) (hn : gs.length ≤ 1000) (a : Int) :
    Calls Try.prog 32 #[.pointer (some ⟨h, 0, none⟩), .int .u32 a] w fun e w' => e = .returned (.tuple #[.int .i64 (posG gs a), .bool (hitG gs a)]) ∧ Below w.heap.size w w' := by
  have c0 : w.cell? ⟨h, 0, none⟩ = some v := o.host.cell 0
  have HP : Hid (posL ws a = posG gs a) := by show _ = _; rw [posL_map, o.mat.keys]; rfl
  have HH : Hid (hitL ws a = hitG gs a) := by show _ = _; rw [hitL_map, o.mat.keys]; rfl
  have HO := Lib.hid (bsfK w B v ws a o.own (o.mat.sort hs) (by rw [o.mat.len]; omega))
  clear o hs
  go_enter Try.func32, Try.ntmps32
  go_wp2_with fail
  refine HO.out.mono ?_
  rintro e w' ⟨rfl, b1⟩
  rw [HP.out, HH.out]
  go_wp2
  refine bodyPost_ret (results_tmp2 rfl _ _ _) rfl ?_
  exact ⟨rfl, b1⟩
def dueV (now draw most : Int) (i : Nat) : Int := now + (1 + (max 0 draw % most + i) % most)
set_option maxHeartbeats 3200000 in
theorem dueK (now draw most : Int) (i : Nat) (w : World) (h0 : 0 ≤ now) (h1 : now ≤ 1000000000000) (m0 : 1 ≤ most) (m1 : most ≤ 255) (hi : i ≤ 1000) (d1 : draw ≤ 9223372036854775807) (d0 : -9223372036854775808 ≤ draw) :
    Calls Try.prog 34 #[.int .i64 now, .int .i64 draw, .int .i64 most, .int .i64 i] w fun e w' => ∃ t, e = .returned (.pointer (some ⟨t, 0, none⟩)) ∧ Blk w' t 3 #[.int .i64 (dueV now draw most i)] ∧ w.heap.size ≤ t ∧ Below w.heap.size w w' := by
  obtain ⟨d, hd⟩ : ∃ d : Int, (if 0 < draw then draw else 0) = d := ⟨_, rfl⟩
  have hmx : max 0 draw = d := by rw [← hd]; split <;> omega
  have hd0 : 0 ≤ d := by omega
  have hd1 : d ≤ 9223372036854775807 := by omega
  obtain ⟨z, hz⟩ : ∃ z : Int, (if 1 < most then most else 1) = z := ⟨_, rfl⟩
  have hzm : most = z := by rw [← hz]; split <;> omega
  have hz0 : 1 ≤ z := by omega
  have hz1 : z ≤ 255 := by omega
  obtain ⟨r, hr⟩ : ∃ r : Int, d % z = r := ⟨_, rfl⟩
  have hr0 : 0 ≤ r := by rw [← hr]; exact Int.emod_nonneg _ (by omega)
  have hr1 : r < z := by rw [← hr]; exact Int.emod_lt_of_pos _ (by omega)
  have ht : d.tmod z = r := by rw [Int.tmod_eq_emod_of_nonneg hd0, hr]
  obtain ⟨q, hq⟩ : ∃ q : Int, (r + i) % z = q := ⟨_, rfl⟩
  have hq0 : 0 ≤ q := by rw [← hq]; exact Int.emod_nonneg _ (by omega)
  have hq1 : q < z := by rw [← hq]; exact Int.emod_lt_of_pos _ (by omega)
  have ht2 : (r + i).tmod z = q := by rw [Int.tmod_eq_emod_of_nonneg (by omega), hq]
  have hm0 : ¬ z = 0 := by omega
  have hmz : max 1 most = z := by omega
  have hri0 : 0 ≤ r + (i : Int) := by omega
  have hri1 : r + (i : Int) ≤ 10000 := by omega
  have HV : Hid (dueV now draw most i = now + (1 + q)) := by show _ = _; unfold dueV; rw [hmx, hzm, hr, hq]
  clear hzm hd hz
  go_enter Try.func34, Try.ntmps34
  go_wp2_with fail
  refine (plusC now (1 + q) _ h0 (by omega) (by omega)).mono ?_
  rintro e w' ⟨rfl, rfl⟩
  go_wp2
  go_ret
  rw [HV.out]
  exact ⟨_, rfl, Blk.new _ _ _, Nat.le_refl _, al (rf _) _⟩
end Go.Proofs.Ytjkmkafceeblpaa
