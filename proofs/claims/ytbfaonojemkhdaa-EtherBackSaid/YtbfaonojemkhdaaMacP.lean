/-
  The program's Parse of an Ethernet address, by the plain rule.
-/
import Derived.Test.YtbfaonojemkhdaaMacR
set_option linter.unusedVariables false
namespace Go.Proofs.Ytbfaonojemkhdaa
open Go.RowKit

def ixv (n : Int) : Int := if 48 ≤ n ∧ n ≤ 57 then n - 48 else if 97 ≤ n ∧ n ≤ 102 then n - 97 + 10 else -1
theorem ixv_fin : ∀ n : Fin 256, Lib.indexByte [48, 49, 50, 51, 52, 53, 54, 55, 56, 57, 97, 98, 99, 100, 101, 102] n.val.toUInt8 = ixv n.val := by decide +kernel
theorem ixv_eq (c : UInt8) : Lib.indexByte [48, 49, 50, 51, 52, 53, 54, 55, 56, 57, 97, 98, 99, 100, 101, 102] ((c.toNat : Int).toNat.toUInt8) = ixv c.toNat := by
  rw [Int.toNat_natCast]; exact ixv_fin ⟨c.toNat, c.toNat_lt⟩
def pc (l : List UInt8) (k j : Nat) : Value := .int .u8 (if 3 * j + 2 ≤ k then pb l (3 * j) else if 3 * j + 1 ≤ k then hv l (3 * j) else 0)
def pcs (l : List UInt8) (k : Nat) : Array Value := #[pc l k 0, pc l k 1, pc l k 2, pc l k 3, pc l k 4, pc l k 5]

theorem ascii_of {l : List UInt8} {k : Nat} (h : if k % 3 = 2 then l.getD k 0 = 58 else 0 ≤ hv l k) : (l.getD k 0).toNat < 128 := by
  split at h
  · rw [h]; decide
  · unfold hv hexv at h
    have := (l.getD k 0).toNat_lt
    (repeat' split at h) <;> omega
theorem pc_same (l : List UInt8) (k j : Nat) (h : k ≠ 3 * j) (h2 : k ≠ 3 * j + 1) : pc l k j = pc l (k + 1) j := by
  unfold pc
  by_cases h1 : 3 * j + 2 ≤ k
  · rw [if_pos h1, if_pos (by omega)]
  · rw [if_neg h1, if_neg (by omega), if_neg (by omega), if_neg (by omega)]
theorem pcs_colon (l : List UInt8) (k : Nat) (hr : k % 3 = 2) : pcs l k = pcs l (k + 1) := by
  unfold pcs
  rw [pc_same l k 0 (by omega) (by omega), pc_same l k 1 (by omega) (by omega), pc_same l k 2 (by omega) (by omega), pc_same l k 3 (by omega) (by omega), pc_same l k 4 (by omega) (by omega), pc_same l k 5 (by omega) (by omega)]
theorem heap_alloc_at (w : World) (o : Obj) (i : Nat) (h : i = w.heap.size) : (w.alloc o).heap[i]? = some o := by subst h; exact heap_alloc_new w o
theorem iterPos_of {w : World} {k : Nat} {s : ByteArray} {pos : Nat} (h : w.heap[k]? = some (.stringIter s pos)) : w.iterPos k = pos := by simp [World.iterPos, h]

theorem index_hex (c : UInt8) (w : World) : Calls Try.prog 29 #[.string ⟨#[48, 49, 50, 51, 52, 53, 54, 55, 56, 57, 97, 98, 99, 100, 101, 102]⟩, .int .u8 c.toNat] w fun e w' => e = .returned (.int .i64 (ixv c.toNat)) ∧ w' = w :=
  (Try.strings_IndexByte _ _ w).mono fun e w' h => ⟨h.1.trans (ret_int (ixv_eq c)), h.2⟩
theorem pcs_set (l : List UInt8) (k : Nat) (x : Int) (hk : k < 17) (hr : k % 3 ≠ 2) (hx : Value.int .u8 x = pc l (k + 1) (k / 3)) : (pcs l k).setIfInBounds (k / 3) (.int .u8 x) = pcs l (k + 1) := by
  have hs : ∀ j, j ≠ k / 3 → pc l k j = pc l (k + 1) j := fun j hj => pc_same l k j (by omega) (by omega)
  rw [hx]
  unfold pcs
  rcases (by omega : k / 3 = 0 ∨ k / 3 = 1 ∨ k / 3 = 2 ∨ k / 3 = 3 ∨ k / 3 = 4 ∨ k / 3 = 5) with h | h | h | h | h | h
  · rw [h, hs 1 (by omega), hs 2 (by omega), hs 3 (by omega), hs 4 (by omega), hs 5 (by omega)]; rfl
  · rw [h, hs 0 (by omega), hs 2 (by omega), hs 3 (by omega), hs 4 (by omega), hs 5 (by omega)]; rfl
  · rw [h, hs 0 (by omega), hs 1 (by omega), hs 3 (by omega), hs 4 (by omega), hs 5 (by omega)]; rfl
  · rw [h, hs 0 (by omega), hs 1 (by omega), hs 2 (by omega), hs 4 (by omega), hs 5 (by omega)]; rfl
  · rw [h, hs 0 (by omega), hs 1 (by omega), hs 2 (by omega), hs 3 (by omega), hs 5 (by omega)]; rfl
  · rw [h, hs 0 (by omega), hs 1 (by omega), hs 2 (by omega), hs 3 (by omega), hs 4 (by omega)]; rfl
theorem pcs_at (l : List UInt8) (k j : Nat) (hj : j < 6) : (pcs l k)[j]? = some (pc l k j) := by
  match j, hj with
  | 0, _ => rfl
  | 1, _ => rfl
  | 2, _ => rfl
  | 3, _ => rfl
  | 4, _ => rfl
  | 5, _ => rfl
theorem or16_fin : ∀ a b : Fin 16, bits .or .u8 ((a.val : Int) * 16) b.val = (a.val : Int) * 16 + b.val := by decide +kernel
theorem or16 (a b : Int) (h0 : 0 ≤ a) (h1 : a ≤ 15) (h2 : 0 ≤ b) (h3 : b ≤ 15) : bits .or .u8 (a * 16) b = a * 16 + b := by
  have := or16_fin ⟨a.toNat, by omega⟩ ⟨b.toNat, by omega⟩
  simpa [Int.toNat_of_nonneg h0, Int.toNat_of_nonneg h2] using this
-- the cell that the byte k goes into, before and behind it
def cv (l : List UInt8) (k : Nat) : Int := if k % 3 = 0 then 0 else hv l (3 * (k / 3))
theorem pc_cv (l : List UInt8) (k : Nat) (hr : k % 3 ≠ 2) : pc l k (k / 3) = .int .u8 (cv l k) := by
  unfold pc cv
  rw [if_neg (by omega)]
  by_cases h : k % 3 = 0
  · rw [if_neg (by omega), if_pos h]
  · rw [if_pos (by omega), if_neg h]
theorem pc_next (l : List UInt8) (k : Nat) (hr : k % 3 ≠ 2) : pc l (k + 1) (k / 3) = .int .u8 (cv l k * 16 + hv l k) := by
  unfold pc cv
  by_cases h : k % 3 = 0
  · rw [if_neg (by omega), if_pos (by omega), if_pos h, show 3 * (k / 3) = k by omega]; simp
  · rw [if_pos (by omega), if_neg h, pb, show 3 * (k / 3) + 1 = k by omega, Int.mul_comm]
theorem cv_le (l : List UInt8) (k : Nat) (hr : k % 3 ≠ 2) (h : okTo l k) : 0 ≤ cv l k ∧ cv l k ≤ 15 := by
  unfold cv
  split
  · omega
  · have h1 := h (3 * (k / 3)) (by omega)
    rw [if_neg (by omega)] at h1
    exact ⟨h1, (hv_le _ _).2⟩
theorem hexv_up (n : Int) (h : 65 ≤ n ∧ n ≤ 70) : hexv n = n - 65 + 10 := by unfold hexv; rw [if_neg (by omega), if_neg (by omega), if_pos h]
theorem hexv_ix (n : Int) (h : ¬ (65 ≤ n ∧ n ≤ 70)) : hexv n = ixv n := by unfold hexv ixv; (repeat' split) <;> omega

theorem prel_next {w wr : World} {s : ByteArray} {k : Nat} {x : Int} (hlt : k < 17) (hr : k % 3 ≠ 2) (hok' : okTo s.data.toList (k + 1)) (hb0 : Blk wr w.heap.size 23 (pcs s.data.toList 0)) (hb1 : Blk wr (w.heap.size + 1) 23 (pcs s.data.toList k))
    (hit : wr.heap[w.heap.size + 2]? = some (.stringIter s k)) (hbl : Below w.heap.size w wr) (hx : x = cv s.data.toList k * 16 + hv s.data.toList k) :
    ∃ j, j ≤ 17 ∧ okTo s.data.toList j ∧ Blk ((wr.iterAt (w.heap.size + 2) s (k + 1)).setCell ⟨w.heap.size + 1, k / 3, none⟩ (.int .u8 x)) w.heap.size 23 (pcs s.data.toList 0) ∧
      Blk ((wr.iterAt (w.heap.size + 2) s (k + 1)).setCell ⟨w.heap.size + 1, k / 3, none⟩ (.int .u8 x)) (w.heap.size + 1) 23 (pcs s.data.toList j) ∧
      ((wr.iterAt (w.heap.size + 2) s (k + 1)).setCell ⟨w.heap.size + 1, k / 3, none⟩ (.int .u8 x)).heap[w.heap.size + 2]? = some (.stringIter s j) ∧
      Below w.heap.size w ((wr.iterAt (w.heap.size + 2) s (k + 1)).setCell ⟨w.heap.size + 1, k / 3, none⟩ (.int .u8 x)) := by
  refine ⟨k + 1, by omega, hok', Blk.far ((Lib.iterAt_other _ _ _ _ _ (by omega)).trans hb0) (by simp) _, ?_, ?_, (Lib.below_iterAt hbl (by omega) _ _).setCell (by simp) _⟩
  · rw [← pcs_set _ k x hlt hr (by rw [pc_next _ _ hr, hx])]
    exact Blk.set_ ((Lib.iterAt_other _ _ _ _ _ (by omega)).trans hb1) _ _
  · exact (Below.heap_setCell _ _ _ _ (by simp)).trans (Lib.iterAt_heap _ _ _ _ _ hit)
theorem iterPos_set {w : World} {k : Nat} {s : ByteArray} {pos : Nat} (h : w.heap[k]? = some (.stringIter s pos)) (p : Nat) (a : Addr) (u : Value) (ha : k ≠ a.block) : ((w.iterAt k s p).setCell a u).iterPos k = p :=
  iterPos_of ((Below.heap_setCell _ _ _ _ ha).trans (Lib.iterAt_heap _ _ _ _ _ h))

set_option maxHeartbeats 800000 in
theorem parse (s : ByteArray) (w : World) (hs : s.size ≤ maxLen) :
    Calls Try.prog 10 #[.string s] w fun e w' => e = .returned (.tuple #[(parseM s.data.toList).1.v, .int .i64 (parseM s.data.toList).2]) ∧ Below w.heap.size w w' := by
  unfold maxLen at hs
  have hl := str_len s
  by_cases hlen : s.size = 17
  · have HL := Lib.hid hl; clear hl
    have HS := Lib.hid hlen
    have b1 : (s.size : Int) ≤ 17 := by omega
    have b2 : 17 ≤ (s.size : Int) := by omega
    have b3 : ((s.size : Int) != 17) = false := by rw [bne_eq_false_iff_eq]; omega
    clear hlen
    go_enter Try.func10, Try.ntmps10
    go_wp2; go_step3; go_wp2; go_step3; go_wp2
    go_loopw [3] (fun _ wr => ∃ k : Nat, k ≤ 17 ∧ okTo s.data.toList k ∧ Blk wr w.heap.size 23 (pcs s.data.toList 0) ∧ Blk wr (w.heap.size + 1) 23 (pcs s.data.toList k) ∧ wr.heap[w.heap.size + 2]? = some (.stringIter s k) ∧ Below w.heap.size w wr) (fun _ wr => 17 - wr.iterPos (w.heap.size + 2))
    case atStart =>
      exact ⟨0, by omega, fun i h => absurd h (by omega), ((Below.heap_alloc _ _ _ (by simp <;> omega)).trans (heap_alloc2_old _ _ _) : _), ((Below.heap_alloc _ _ _ (by simp <;> omega)).trans (heap_alloc2_new _ _ _) : _), heap_alloc_at _ _ _ (by simp), (((Below.refl _ _).alloc (Nat.le_refl _) _).alloc (by simp) _).alloc (by simp; omega) _⟩
    case round =>
      obtain ⟨k, hk, hok, hb0, hb1, hit, hbl⟩ := hrel
      have HIT := Lib.hid hit; clear hit
      by_cases hlt : k < 17
      · have e1 := str_hv s k (by rw [HS.out]; omega)
        have E1 := Lib.hid e1; clear e1
        by_cases hg : if k % 3 = 2 then s.data.toList.getD k 0 = 58 else 0 ≤ hv s.data.toList k
        · have HG := Lib.hid hg; clear hg
          have hok' : okTo s.data.toList (k + 1) := fun i hi => by
            by_cases h1 : i < k
            · exact hok i h1
            · obtain rfl : i = k := by omega
              exact HG.out
          have hnx := fun ty => Lib.run_next_ascii_at (P := Try.prog) wr (w.heap.size + 2) s k ty HIT.out (by rw [HS.out]; exact hlt) (by rw [str_get]; exact ascii_of HG.out)
          by_cases hr : k % 3 = 2
          · have c4 : (((s[k]'(by omega)).toNat : Int) != 58) = false := by
              have h := HG.out
              rw [if_pos hr] at h
              rw [str_get, h]; rfl
            have c5 : ((k : Int) % 3 == 2) = true := by rw [beq_iff_eq]; omega
            go_wp2
            go_roundw
            case rel => exact ⟨k + 1, by omega, hok', (Lib.iterAt_other _ _ _ _ _ (by omega)).trans hb0, by rw [← pcs_colon _ _ hr]; exact (Lib.iterAt_other _ _ _ _ _ (by omega)).trans hb1, Lib.iterAt_heap _ _ _ _ _ HIT.out, Lib.below_iterAt hbl (by omega) _ _⟩
            case measure => rw [iterPos_of (Lib.iterAt_heap _ _ _ _ _ HIT.out), iterPos_of HIT.out]; omega
          · have c5 : ((k : Int) % 3 == 2) = false := by rw [beq_eq_false_iff_ne]; omega
            have hcv := cv_le _ _ hr hok
            have hce : (wr.iterAt (w.heap.size + 2) s (k + 1)).cell? ⟨w.heap.size + 1, k / 3, none⟩ = some (.int .u8 (cv s.data.toList k)) := by
              rw [Blk.cell ((Lib.iterAt_other _ _ _ _ _ (by omega)).trans hb1), pcs_at _ _ _ (by omega), pc_cv _ _ hr]
            have hfr : (wr.iterAt (w.heap.size + 2) s (k + 1)).frozen? ⟨w.heap.size + 1, k / 3, none⟩ = false := Blk.frozen ((Lib.iterAt_other _ _ _ _ _ (by omega)).trans hb1) _
            have hn := (s[k]'(by omega)).toNat_lt
            have hge : 0 ≤ hexv (s[k]'(by omega)).toNat := by
              have h := HG.out
              rw [if_neg hr] at h
              rw [E1.out]; exact h
            by_cases h6 : 65 ≤ ((s[k]'(by omega)).toNat : Int) ∧ ((s[k]'(by omega)).toNat : Int) ≤ 70
            · obtain ⟨h61, h62⟩ := h6
              clear hge
              go_wp2_with fail
              refine (index_hex _ _).mono ?_
              rintro e w' ⟨rfl, rfl⟩
              go_wp2
              go_roundw
              case rel => exact prel_next hlt hr hok' hb0 hb1 HIT.out hbl (by rw [or16 _ _ hcv.1 hcv.2 (by omega) (by omega), ← E1.out, hexv_up _ ⟨h61, h62⟩])
              case measure => rw [iterPos_set HIT.out _ _ _ (by simp), iterPos_of HIT.out]; omega
            · have hle := (hexv_le (s[k]'(by omega)).toNat).2
              have E2 := Lib.hid (hexv_ix _ h6)
              rw [E2.out] at hge hle
              have H6 := Lib.hid h6; clear h6
              by_cases h65 : 65 ≤ ((s[k]'(by omega)).toNat : Int)
              · have h70 : 70 < ((s[k]'(by omega)).toNat : Int) := by have := H6.out; omega
                go_wp2_with fail
                refine (index_hex _ _).mono ?_
                rintro e w' ⟨rfl, rfl⟩
                go_wp2
                go_roundw
                case rel => exact prel_next hlt hr hok' hb0 hb1 HIT.out hbl (by rw [or16 _ _ hcv.1 hcv.2 hge hle, ← E1.out, E2.out])
                case measure => rw [iterPos_set HIT.out _ _ _ (by simp), iterPos_of HIT.out]; omega
              · go_wp2_with fail
                refine (index_hex _ _).mono ?_
                rintro e w' ⟨rfl, rfl⟩
                go_wp2
                go_roundw
                case rel => exact prel_next hlt hr hok' hb0 hb1 HIT.out hbl (by rw [or16 _ _ hcv.1 hcv.2 hge hle, ← E1.out, E2.out])
                case measure => rw [iterPos_set HIT.out _ _ _ (by simp), iterPos_of HIT.out]; omega
        · have hbad : parseM s.data.toList = (zeroMac, 3) := parseM_bad _ k hlt (by
            by_cases h : k % 3 = 2
            · rw [if_pos h] at hg ⊢; exact hg
            · rw [if_neg h] at hg ⊢; omega)
          have HB := Lib.hid hbad; clear hbad
          have HG := Lib.hid hg; clear hg
          have hnx := fun ty => Lib.run_next_any_at (P := Try.prog) wr (w.heap.size + 2) s k ty HIT.out (by rw [HS.out]; exact hlt)
          obtain ⟨d, hd⟩ : ∃ d, d = (Utf8.decode s k).2 := ⟨_, rfl⟩
          rw [← hd] at hnx
          clear hd
          have hb0' : Blk (wr.iterAt (w.heap.size + 2) s (k + d)) w.heap.size 23 (pcs s.data.toList 0) := (Lib.iterAt_other _ _ _ _ _ (by omega)).trans hb0
          have fin : ∀ (a : Act), a.tmps.getD 2 undef = .pointer (some ⟨w.heap.size, 0, none⟩) → a.tmps.getD 3 undef = .int .i64 3 → a.defers = [] →
              bodyPost Try.prog Try.f10 (fun e w' => e = .returned (.tuple #[(parseM s.data.toList).1.v, .int .i64 (parseM s.data.toList).2]) ∧ Below w.heap.size w w') .ret a ((wr.iterAt (w.heap.size + 2) s (k + d)).setRow w.heap.size (pcs s.data.toList 0)) := by
            intro a h2 h3 hd
            rw [HB.out]
            refine bodyPost_ret (v := .tuple #[zeroMac.v, .int .i64 3]) ((run_results_cell_tmp rfl _ _ _ _ _ _ _ h2 (setRow_heap _ _ _ _ _ _ hb0') Try.underlying23 rfl (by kernel_rfl)).trans (by rw [h3]; rfl)) hd ⟨rfl, below_setRow (Lib.below_iterAt hbl (by omega) _ _) (Nat.le_refl _) _⟩
          have FIN := Lib.hid fin; clear fin
          by_cases hr : k % 3 = 2
          · have c4 : (((s[k]'(by omega)).toNat : Int) != 58) = true := by
              rw [str_get, bne_iff_ne]
              exact fun h => HG.out (by rw [if_pos hr]; exact UInt8.toNat_inj.1 (Int.ofNat.inj h))
            have c5 : ((k : Int) % 3 == 2) = true := by rw [beq_iff_eq]; omega
            go_wp2_with (refine wpList_store_row rfl 23 (.tmp 2) (.tmp 28) rfl _ _ rfl rfl _ _ hb0' (by kernel_rfl) rfl (by simp [Value.oneCell']) ?_)
            try rw [Exit.noGoto_ret]
            exact FIN.out _ rfl rfl rfl
          · have c5 : ((k : Int) % 3 == 2) = false := by rw [beq_eq_false_iff_ne]; omega
            have hn := (s[k]'(by omega)).toNat_lt
            have hlo : hexv (s[k]'(by omega)).toNat < 0 := by
              have h := HG.out
              rw [if_neg hr] at h
              rw [E1.out]; omega
            have h6 : ¬ (65 ≤ ((s[k]'(by omega)).toNat : Int) ∧ ((s[k]'(by omega)).toNat : Int) ≤ 70) := fun h => by rw [hexv_up _ h] at hlo; omega
            rw [hexv_ix _ h6] at hlo
            have H6 := Lib.hid h6; clear h6
            by_cases h65 : 65 ≤ ((s[k]'(by omega)).toNat : Int)
            · have h70 : 70 < ((s[k]'(by omega)).toNat : Int) := by have := H6.out; omega
              go_wp2_with fail
              refine (index_hex _ _).mono ?_
              rintro e w' ⟨rfl, rfl⟩
              go_wp2_with (refine wpList_store_row rfl 23 (.tmp 2) (.tmp 51) rfl _ _ rfl rfl _ _ hb0' (by kernel_rfl) rfl (by simp [Value.oneCell']) ?_)
              try rw [Exit.noGoto_ret]
              exact FIN.out _ rfl rfl rfl
            · go_wp2_with fail
              refine (index_hex _ _).mono ?_
              rintro e w' ⟨rfl, rfl⟩
              go_wp2_with (refine wpList_store_row rfl 23 (.tmp 2) (.tmp 51) rfl _ _ rfl rfl _ _ hb0' (by kernel_rfl) rfl (by simp [Value.oneCell']) ?_)
              try rw [Exit.noGoto_ret]
              exact FIN.out _ rfl rfl rfl
      · obtain rfl : k = 17 := by omega
        have hnx := fun ty => Lib.run_next_end_at (P := Try.prog) wr (w.heap.size + 2) s 17 ty HIT.out (by rw [HS.out]; omega)
        go_wp2_with (first | (refine wpList_load_row rfl 23 (.tmp 4) rfl _ rfl _ _ _ _ hb1 Try.underlying23 rfl (by kernel_rfl) ?_) | (refine wpList_store_row rfl 23 (.tmp 2) (.tmp 61) rfl _ _ rfl rfl _ _ hb0 (by kernel_rfl) rfl (by simp [pcs, pc, Value.oneCell']) ?_))
        have hall : Value.agg (pcs s.data.toList 17) = (macOf s.data.toList).v := rcs_all _ fun j hj => ⟨by have := hok (3 * j) (by omega); rwa [if_neg (by omega)] at this, by have := hok (3 * j + 1) (by omega); rwa [if_neg (by omega)] at this⟩
        rw [Exit.noGoto_ret]
        refine bodyPost_ret (v := .tuple #[(macOf s.data.toList).v, .int .i64 0]) ((run_results_cell_tmp rfl _ _ _ _ _ _ _ rfl (setRow_heap _ _ _ _ _ _ hb0) Try.underlying23 rfl (by kernel_rfl)).trans (by rw [hall]; rfl)) rfl ?_
        rw [parseM_ok _ (by rw [HL.out, HS.out]) (fun i hi => hok i (by omega))]
        exact ⟨rfl, below_setRow hbl (Nat.le_refl _) _⟩
  · have hp := parseM_len s.data.toList (by omega)
    have HP := Lib.hid hp; clear hp
    have b3 : ((s.size : Int) != 17) = true := by rw [bne_iff_ne]; omega
    go_enter Try.func10, Try.ntmps10
    go_wp2; go_step3; go_wp2
    rw [Exit.noGoto_ret]
    refine bodyPost_ret (v := .tuple #[zeroMac.v, .int .i64 3]) (by simp [results, Try.results10, go_sem]; rfl) rfl ?_
    rw [HP.out]
    exact ⟨rfl, ((Below.refl _ _).alloc (Nat.le_refl _) _).alloc (by simp) _⟩
end Go.Proofs.Ytbfaonojemkhdaa
