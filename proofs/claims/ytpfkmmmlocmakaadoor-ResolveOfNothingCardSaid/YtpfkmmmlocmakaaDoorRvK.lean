/-
  Resolve: a name in small letters (key).
-/
import Derived.Test.YtpfkmmmlocmakaaDoorNm
import Derived.Test.YtpfkmmmlocmakaaDoorMem
import Derived.Laws.IdiomStrings
set_option linter.unusedVariables false
namespace Go.Proofs.YtpfkmmmlocmakaaDoor
open Go.RowKit

-- a block whose frozen cells lie behind its row
def BlkF (w : World) (g : Nat) (t : TypeId) (cs : Array Value) (n : Nat) : Prop := w.heap[g]? = some (.cells cs t (n, n + 1))
theorem BlkF.cell {w : World} {g : Nat} {t : TypeId} {cs : Array Value} {n : Nat} (h : BlkF w g t cs n) (i : Nat) : w.cell? ⟨g, i, none⟩ = cs[i]? := cell_of_row w g i cs t (n, n + 1) h
theorem BlkF.frozen {w : World} {g : Nat} {t : TypeId} {cs : Array Value} {n : Nat} (h : BlkF w g t cs n) (i : Nat) (hi : i < n) : w.frozen? ⟨g, i, none⟩ = false := by
  unfold BlkF at h
  simp [World.frozen?, h]; omega
theorem BlkF.set_ {w : World} {g : Nat} {t : TypeId} {cs : Array Value} {n : Nat} (h : BlkF w g t cs n) (i : Nat) (u : Value) : BlkF (w.setCell ⟨g, i, none⟩ u) g t (cs.setIfInBounds i u) n := by
  unfold BlkF at h ⊢
  simp [World.setCell, Array.getElem?_modify, h]
set_option maxHeartbeats 800000 in
theorem keyC (a : ByteArray) (w : World) (ha : a.size ≤ 1099511627776) :
    Calls Tryd.prog 60 #[.string a] w fun e w' => ∃ s : ByteArray, e = .returned (.string s) ∧ s.data.toList = (a.data.toList.map fun c => UInt8.ofNat (lowN c.toNat)) ∧ Below w.heap.size w w' := by
  have hconv := run_bytes_of_string (P := Tryd.prog) w 9 34 5 a Tryd.underlying9 Tryd.underlying34 Tryd.underlying5
  have hge := grownCap_ge w a.size 0 5
  generalize grownCap w a.size 0 5 = cp at hconv hge
  go_enter Tryd.func60, Tryd.ntmps60
  go_wp2
  have hB : BlkF (w.drew.alloc (.cells (bytesRow a cp) 5 ((bytesRow a cp).size, (bytesRow a cp).size + 1))) w.heap.size 5 (bytesRow a cp) (bytesRow a cp).size := heap_alloc_new w.drew _
  have hsz : (bytesRow a cp).size = cp := by simp [bytesRow]; show a.size + (cp - a.size) = cp; omega
  have h0 : ∀ j, (h : j < a.size) → (bytesRow a cp)[j]? = some (.int .u8 a[j].toNat) := by
    intro j h
    unfold bytesRow
    rw [Array.getElem?_append_left (by simpa using h)]
    simp [h]
    rfl
  have bel : Below w.heap.size w (w.drew.alloc (.cells (bytesRow a cp) 5 ((bytesRow a cp).size, (bytesRow a cp).size + 1))) := al (rf w).drew _
  rw [hsz] at hB bel
  clear hconv
  rw [hsz]
  replace hB : BlkF (w.alloc (.cells (bytesRow a cp) 5 (cp, cp + 1))).drew w.heap.size 5 (bytesRow a cp) cp := hB
  replace bel : Below w.heap.size w (w.alloc (.cells (bytesRow a cp) 5 (cp, cp + 1))).drew := bel
  generalize (w.alloc (.cells (bytesRow a cp) 5 (cp, cp + 1))).drew = W at hB bel ⊢
  have H0 := Lib.hid h0
  have HS := Lib.hid hsz
  clear h0 hsz
  go_loopw [10] (fun i wr => ∃ (k : Nat) (cur : Array Value), k ≤ a.size ∧ i = .int .i64 k ∧ BlkF wr w.heap.size 5 cur cp ∧ Hid (∀ j, (h : j < a.size) → cur[j]? = some (.int .u8 ((if j < k then lowN a[j].toNat else a[j].toNat : Nat) : Int))) ∧ Below w.heap.size w wr) (fun i _ => a.size - (intOf i).toNat)
  case atStart => exact ⟨0, bytesRow a cp, by omega, rfl, hB, Lib.hid fun j h => by rw [H0.out j h, if_neg (by omega)], bel⟩
  case round =>
    obtain ⟨k, cur, hk, rfl, BK, HK, belK⟩ := hrel
    clear hB bel
    by_cases hlt : k < a.size
    · have hc := BK.cell k
      rw [HK.out k hlt, if_neg (by omega)] at hc
      have hf := BK.frozen k (by omega)
      have k0 : (0 : Int) ≤ k := by omega
      have k1 : (k : Int) < a.size := by omega
      have b1 := a[k].toNat_lt
      generalize hx : a[k].toNat = x at hc b1
      have HX := Lib.hid hx; clear hx
      have next : ∀ v : Nat, v = lowN x → Hid (∀ j, (h : j < a.size) → (cur.setIfInBounds k (.int .u8 (v : Nat)))[j]? = some (.int .u8 ((if j < k + 1 then lowN a[j].toNat else a[j].toNat : Nat) : Int))) := fun v hv j h => by
        have hcs : k < cur.size := by
          have := HK.out k hlt
          exact (Array.getElem?_eq_some_iff.1 this).1
        by_cases hj : j = k
        · subst hj
          rw [Array.getElem?_setIfInBounds_self_of_lt hcs, if_pos (by omega), HX.out, hv]
        · rw [Array.getElem?_setIfInBounds_ne (by omega), HK.out j h]
          by_cases hj2 : j < k
          · rw [if_pos hj2, if_pos (by omega)]
          · rw [if_neg hj2, if_neg (by omega)]
      have NEXT := Lib.hid next; clear next
      have same : lowN x = x → Hid (∀ j, (h : j < a.size) → cur[j]? = some (.int .u8 ((if j < k + 1 then lowN a[j].toNat else a[j].toNat : Nat) : Int))) := fun hv j h => by
        rw [HK.out j h]
        by_cases hj : j = k
        · subst hj
          rw [if_neg (by omega), if_pos (by omega), HX.out, hv]
        · by_cases hj2 : j < k
          · rw [if_pos hj2, if_pos (by omega)]
          · rw [if_neg hj2, if_neg (by omega)]
      have SAME := Lib.hid same; clear same
      by_cases h65 : 65 ≤ x
      · have i1 : (65 : Int) ≤ x := by omega
        by_cases h90 : x ≤ 90
        · have i2 : (x : Int) ≤ 90 := by omega
          have hl : Hid (lowN x = x + 32) := if_pos ⟨h65, h90⟩
          clear h65 h90
          go_wp2
          go_roundw
          case rel => exact ⟨k + 1, _, by omega, by go_num, BK.set_ k _, by have h := NEXT.out (x + 32) hl.out.symm; rw [show ((x + 32 : Nat) : Int) = (x : Int) + 97 - 65 by omega] at h; exact h, belK.setCell (Nat.le_refl _) _⟩
          case measure => simp [intOf]; omega
        · have i2 : ¬ (x : Int) ≤ 90 := by omega
          have hl : Hid (lowN x = x) := if_neg (by omega)
          clear h65 h90
          go_wp2
          go_roundw
          case rel => exact ⟨k + 1, cur, by omega, by go_num, BK, SAME.out hl.out, belK⟩
          case measure => simp [intOf]; omega
      · have i1 : ¬ (65 : Int) ≤ x := by omega
        have hl : Hid (lowN x = x) := if_neg (by omega)
        clear h65
        go_wp2
        go_roundw
        case rel => exact ⟨k + 1, cur, by omega, by go_num, BK, SAME.out hl.out, belK⟩
        case measure => simp [intOf]; omega
    · have hl0 : (a.data.toList.map fun c => UInt8.ofNat (lowN c.toNat)).length = a.size := by simp
      have hcv := run_convert_bytes_back (P := Tryd.prog) wr 34 9 5 ⟨w.heap.size, 0, none⟩ cp (a.data.toList.map fun c => UInt8.ofNat (lowN c.toNat)) Tryd.underlying34 Tryd.underlying5 Tryd.underlying9 (fun j hj => by
        have hj' : j < a.size := by rw [hl0] at hj; exact hj
        have := lowN_le a[j].toNat (by have := a[j].toNat_lt; omega)
        rw [Addr.add_mid, BK.cell, Nat.zero_add, HK.out j hj', if_pos (by omega)]
        simp [UInt8.toNat_ofNat']
        have e : lowN a.data[j].toNat ≤ 255 := this
        have e2 : lowN a[j].toNat = lowN a.data[j].toNat := rfl
        rw [e2]; omega)
      rw [hl0] at hcv
      generalize hbs : (a.data.toList.map fun c => UInt8.ofNat (lowN c.toNat)).toArray = bs at hcv
      have HBS := Lib.hid hbs
      clear hl0 hbs
      go_wp2
      go_ret
      exact ⟨_, rfl, by rw [← HBS.out], belK⟩
end Go.Proofs.YtpfkmmmlocmakaaDoor
