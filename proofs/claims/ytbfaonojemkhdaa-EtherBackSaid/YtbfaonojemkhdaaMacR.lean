/-
  Which texts are Ethernet addresses: the plain rule, and the reference's digit and Parse by it.
-/
import Derived.Test.YtbfaonojemkhdaaMac
set_option linter.unusedVariables false
namespace Go.Proofs.Ytbfaonojemkhdaa
open Go.RowKit

def hexv (n : Int) : Int := if 48 ≤ n ∧ n ≤ 57 then n - 48 else if 97 ≤ n ∧ n ≤ 102 then n - 97 + 10 else if 65 ≤ n ∧ n ≤ 70 then n - 65 + 10 else -1
def hv (l : List UInt8) (i : Nat) : Int := hexv (l.getD i 0).toNat
def pb (l : List UInt8) (i : Nat) : Int := 16 * hv l i + hv l (i + 1)
def macOk (l : List UInt8) : Bool := l.length == 17 && (List.range 17).all fun i => if i % 3 == 2 then l.getD i 0 == 58 else decide (0 ≤ hv l i)
def u8 (n : Int) : UInt8 := UInt8.ofNat n.toNat
def macOf (l : List UInt8) : Mac := ⟨u8 (pb l 0), u8 (pb l 3), u8 (pb l 6), u8 (pb l 9), u8 (pb l 12), u8 (pb l 15)⟩
def zeroMac : Mac := ⟨0, 0, 0, 0, 0, 0⟩
def parseM (l : List UInt8) : Mac × Int := if macOk l then (macOf l, 0) else (zeroMac, 3)
theorem hexv_le (n : Int) : -1 ≤ hexv n ∧ hexv n ≤ 15 := by unfold hexv; (repeat' split) <;> omega
theorem hv_le (l : List UInt8) (i : Nat) : -1 ≤ hv l i ∧ hv l i ≤ 15 := hexv_le _
theorem u8_nat (n : Int) (h0 : 0 ≤ n) (h1 : n ≤ 255) : ((u8 n).toNat : Int) = n := by
  unfold u8; rw [UInt8.toNat_ofNat']; omega
theorem parseM_ok (l : List UInt8) (h : l.length = 17) (hk : ∀ i, i < 17 → if i % 3 = 2 then l.getD i 0 = 58 else 0 ≤ hv l i) : parseM l = (macOf l, 0) := by
  unfold parseM; rw [if_pos]
  simp only [macOk, h, Bool.and_eq_true, beq_self_eq_true, true_and, List.all_eq_true, List.mem_range]
  intro i hi; have := hk i hi
  by_cases h2 : i % 3 = 2 <;> simp_all
theorem parseM_len (l : List UInt8) (h : l.length ≠ 17) : parseM l = (zeroMac, 3) := by
  unfold parseM; rw [if_neg]; simp [macOk, h]
theorem parseM_bad (l : List UInt8) (i : Nat) (hi : i < 17) (hb : if i % 3 = 2 then l.getD i 0 ≠ 58 else hv l i < 0) : parseM l = (zeroMac, 3) := by
  unfold parseM; rw [if_neg]
  intro h
  simp only [macOk, Bool.and_eq_true, List.all_eq_true, List.mem_range] at h
  have := h.2 i hi
  by_cases h2 : i % 3 = 2 <;> simp_all <;> omega

set_option maxHeartbeats 400000 in
theorem digit (n : Int) (w : World) (h0 : 0 ≤ n) (h1 : n ≤ 255) :
    Calls Try.prog 30 #[.int .u8 n] w fun e w' => e = .returned (.int .i64 (hexv n)) ∧ w' = w := by
  go_enter Try.func30, Try.ntmps30
  go_wp2
  all_goals go_ret
  all_goals refine ⟨ret_int ?_, rfl⟩
  all_goals (unfold hexv; repeat (split <;> try omega))

-- the cells of the address after k bytes of it
def rc (l : List UInt8) (k j : Nat) : Value := .int .u8 (if j < k then pb l (3 * j) else 0)
def rcs (l : List UInt8) (k : Nat) : Array Value := #[rc l k 0, rc l k 1, rc l k 2, rc l k 3, rc l k 4, rc l k 5]
theorem rcs_set (l : List UInt8) (k : Nat) (hk : k < 6) : (rcs l k).setIfInBounds k (.int .u8 (pb l (3 * k))) = rcs l (k + 1) := by
  match k, hk with
  | 0, _ => rfl
  | 1, _ => rfl
  | 2, _ => rfl
  | 3, _ => rfl
  | 4, _ => rfl
  | 5, _ => rfl
theorem pb_le (l : List UInt8) (i : Nat) (h1 : 0 ≤ hv l i) (h2 : 0 ≤ hv l (i + 1)) : 0 ≤ pb l i ∧ pb l i ≤ 255 := by
  have := hv_le l i; have := hv_le l (i + 1); unfold pb; omega
theorem rcs_all (l : List UInt8) (h : ∀ j, j < 6 → 0 ≤ hv l (3 * j) ∧ 0 ≤ hv l (3 * j + 1)) : Value.agg (rcs l 6) = (macOf l).v := by
  have p := fun j hj => pb_le l (3 * j) (h j hj).1 (h j hj).2
  have p0 := p 0 (by omega); have p1 := p 1 (by omega); have p2 := p 2 (by omega); have p3 := p 3 (by omega); have p4 := p 4 (by omega); have p5 := p 5 (by omega)
  simp only [Nat.reduceMul] at p0 p1 p2 p3 p4 p5
  simp [rcs, rc, Mac.v, macOf, u8_nat _ p0.1 p0.2, u8_nat _ p1.1 p1.2, u8_nat _ p2.1 p2.2, u8_nat _ p3.1 p3.2, u8_nat _ p4.1 p4.2, u8_nat _ p5.1 p5.2]
theorem str_get (s : ByteArray) (i : Nat) (h : i < s.size) : s[i] = s.data.toList.getD i 0 := by
  rw [ByteArray.getElem_eq_getElem_data, List.getD_eq_getElem?_getD, Array.getElem?_toList, Array.getElem?_eq_getElem (by simpa using h)]; rfl

def okTo (l : List UInt8) (n : Nat) : Prop := ∀ i, i < n → if i % 3 = 2 then l.getD i 0 = 58 else 0 ≤ hv l i
theorem str_hv (s : ByteArray) (i : Nat) (h : i < s.size) : hexv (s[i].toNat : Int) = hv s.data.toList i := by rw [str_get s i h]; rfl

set_option maxHeartbeats 800000 in
theorem rparse (s : ByteArray) (w : World) (hs : s.size ≤ maxLen) :
    Calls Try.prog 13 #[.string s] w fun e w' => e = .returned (.tuple #[(parseM s.data.toList).1.v, .int .i64 (parseM s.data.toList).2]) ∧ Below w.heap.size w w' := by
  unfold maxLen at hs
  have hl := str_len s
  by_cases hlen : s.size = 17
  · have HL := Lib.hid hl; clear hl
    have HS := Lib.hid hlen
    have b1 : (s.size : Int) ≤ 17 := by omega
    have b2 : 17 ≤ (s.size : Int) := by omega
    have b3 : ((s.size : Int) != 17) = false := by rw [bne_eq_false_iff_eq]; omega
    clear hlen
    go_enter Try.func13, Try.ntmps13
    go_wp2
    go_loopw [5] (fun i wr => ∃ k : Nat, k ≤ 6 ∧ i = .int .i64 k ∧ okTo s.data.toList (min 17 (3 * k)) ∧ Blk wr w.heap.size 23 (rcs s.data.toList 0) ∧ Blk wr (w.heap.size + 1) 23 (rcs s.data.toList k) ∧ Below w.heap.size w wr) (fun i _ => 6 - (intOf i).toNat)
    case atStart =>
      exact ⟨0, by omega, rfl, fun i h => absurd h (by omega), by rw [Blk, heap_alloc2_old]; rfl, by rw [Blk, heap_alloc2_new]; rfl, ((Below.refl _ _).alloc (Nat.le_refl _) _).alloc (by simp) _⟩
    case round =>
      obtain ⟨k, hk, rfl, hok, hb0, hb1, hbl⟩ := hrel
      by_cases hlt : k < 6
      · have e1 := str_hv s (3 * k) (by rw [HS.out]; omega)
        have e2 := str_hv s (3 * k + 1) (by rw [HS.out]; omega)
        have E1 := Lib.hid e1; clear e1; have E2 := Lib.hid e2; clear e2
        go_wp2_with fail
        refine (digit _ _ (by omega) (by have := (s[3 * k]'(by omega)).toNat_lt; omega)).mono ?_
        rintro e w' ⟨rfl, rfl⟩
        rw [E1.out]
        go_wp2_with fail
        refine (digit _ _ (by omega) (by have := (s[3 * k + 1]'(by omega)).toNat_lt; omega)).mono ?_
        rintro e w' ⟨rfl, rfl⟩
        rw [E2.out]
        have l1 := hv_le s.data.toList (3 * k)
        have l2 := hv_le s.data.toList (3 * k + 1)
        by_cases c : 0 ≤ hv s.data.toList (3 * k) ∧ 0 ≤ hv s.data.toList (3 * k + 1) ∧ (k < 5 → s.data.toList.getD (3 * k + 2) 0 = 58)
        · obtain ⟨c1, c2, c3⟩ := c
          have C3 := Lib.hid c3; clear c3
          have hfr := hb1.frozen k
          have hce : w'.cell? ⟨w.heap.size + 1, k, none⟩ = some (.int .u8 0) := by
            rw [hb1.cell]
            match k, hlt with
            | 0, _ => rfl
            | 1, _ => rfl
            | 2, _ => rfl
            | 3, _ => rfl
            | 4, _ => rfl
            | 5, _ => rfl
          have hpb : pb s.data.toList (3 * k) = 16 * hv s.data.toList (3 * k) + hv s.data.toList (3 * k + 1) := rfl
          have HPB := Lib.hid hpb; clear hpb
          have hok' : okTo s.data.toList (min 17 (3 * (k + 1))) := by
            intro i hi
            by_cases h1 : i < 3 * k
            · exact hok i (by omega)
            · by_cases h2 : i = 3 * k
              · rw [if_neg (by omega), h2]; exact c1
              · by_cases h3 : i = 3 * k + 1
                · rw [if_neg (by omega), h3]; exact c2
                · have h4 : i = 3 * k + 2 := by omega
                  subst h4
                  rw [if_pos (by omega)]
                  exact C3.out (by omega)
          by_cases h5 : k < 5
          · have c4 : (((s[3 * k + 2]'(by omega)).toNat : Int) != 58) = false := by rw [str_get, C3.out h5]; rfl
            go_wp2
            go_roundw
            case rel => exact ⟨k + 1, by omega, by go_num, hok', hb0.far (by simp) _, by rw [← rcs_set _ _ hlt, HPB.out]; exact hb1.set_ k _, hbl.setCell (by simp) _⟩
            case measure => simp [intOf]; omega
          · go_wp2
            go_roundw
            case rel => exact ⟨k + 1, by omega, by go_num, hok', hb0.far (by simp) _, by rw [← rcs_set _ _ hlt, HPB.out]; exact hb1.set_ k _, hbl.setCell (by simp) _⟩
            case measure => simp [intOf]; omega
        · have hbad : parseM s.data.toList = (zeroMac, 3) := by
            by_cases c1 : hv s.data.toList (3 * k) < 0
            · exact parseM_bad _ (3 * k) (by omega) (by rw [if_neg (by omega)]; exact c1)
            · by_cases c2 : hv s.data.toList (3 * k + 1) < 0
              · exact parseM_bad _ (3 * k + 1) (by omega) (by rw [if_neg (by omega)]; exact c2)
              · exact parseM_bad _ (3 * k + 2) (by omega) (by rw [if_pos (by omega)]; exact fun h => c ⟨by omega, by omega, fun _ => h⟩)
          have HB := Lib.hid hbad; clear hbad
          have C := Lib.hid c; clear c
          have fin : ∀ (a : Act), a.tmps.getD 2 undef = .pointer (some ⟨w.heap.size, 0, none⟩) → a.tmps.getD 3 undef = .int .i64 3 → a.defers = [] →
              bodyPost Try.prog Try.f13 (fun e w' => e = .returned (.tuple #[(parseM s.data.toList).1.v, .int .i64 (parseM s.data.toList).2]) ∧ Below w.heap.size w w') .ret a (w'.setRow w.heap.size (rcs s.data.toList 0)) := by
            intro a h2 h3 hd
            rw [HB.out]
            refine bodyPost_ret (v := .tuple #[zeroMac.v, .int .i64 3]) ((run_results_cell_tmp rfl _ _ _ _ _ _ _ h2 (setRow_heap _ _ _ _ _ _ hb0) Try.underlying23 rfl (by kernel_rfl)).trans (by rw [h3]; rfl)) hd ⟨rfl, below_setRow hbl (Nat.le_refl _) _⟩
          have FIN := Lib.hid fin; clear fin
          by_cases c1 : hv s.data.toList (3 * k) < 0
          · go_wp2_with (refine wpList_store_row rfl 23 (.tmp 2) (.tmp 45) rfl _ _ rfl rfl _ _ hb0 (by kernel_rfl) rfl (by simp [Value.oneCell']) ?_)
            exact FIN.out _ rfl rfl rfl
          · by_cases c2 : hv s.data.toList (3 * k + 1) < 0
            · go_wp2_with (refine wpList_store_row rfl 23 (.tmp 2) (.tmp 45) rfl _ _ rfl rfl _ _ hb0 (by kernel_rfl) rfl (by simp [Value.oneCell']) ?_)
              exact FIN.out _ rfl rfl rfl
            · have c3 : k < 5 := Decidable.byContradiction fun h => C.out ⟨by omega, by omega, fun h' => absurd h' h⟩
              have c4 : (((s[3 * k + 2]'(by omega)).toNat : Int) != 58) = true := by
                rw [str_get, bne_iff_ne]
                exact fun h => C.out ⟨by omega, by omega, fun _ => UInt8.toNat_inj.1 (Int.ofNat.inj h)⟩
              go_wp2_with (refine wpList_store_row rfl 23 (.tmp 2) (.tmp 45) rfl _ _ rfl rfl _ _ hb0 (by kernel_rfl) rfl (by simp [Value.oneCell']) ?_)
              exact FIN.out _ rfl rfl rfl
      · have hlt' : k = 6 := by omega
        subst hlt'
        go_wp2_with (first | (refine wpList_load_row rfl 23 (.tmp 4) rfl _ rfl _ _ _ _ hb1 Try.underlying23 rfl (by kernel_rfl) ?_) | (refine wpList_store_row rfl 23 (.tmp 2) (.tmp 53) rfl _ _ rfl rfl _ _ hb0 (by kernel_rfl) rfl (by simp [rcs, rc, Value.oneCell']) ?_))
        have hall : Value.agg (rcs s.data.toList 6) = (macOf s.data.toList).v := rcs_all _ fun j hj => ⟨by have := hok (3 * j) (by omega); rwa [if_neg (by omega)] at this, by have := hok (3 * j + 1) (by omega); rwa [if_neg (by omega)] at this⟩
        rw [parseM_ok _ (by rw [HL.out, HS.out]) (fun i hi => hok i (by omega))]
        refine bodyPost_ret (v := .tuple #[(macOf s.data.toList).v, .int .i64 0]) ((run_results_cell_tmp rfl _ _ _ _ _ _ _ rfl (setRow_heap _ _ _ _ _ _ hb0) Try.underlying23 rfl (by kernel_rfl)).trans (by rw [hall]; rfl)) rfl ⟨rfl, below_setRow hbl (Nat.le_refl _) _⟩
  · have hp := parseM_len s.data.toList (by omega)
    have HP := Lib.hid hp; clear hp
    go_enter Try.func13, Try.ntmps13
    go_wp2
    refine bodyPost_ret (v := .tuple #[zeroMac.v, .int .i64 3]) (by simp [results, Try.results13, go_sem]; rfl) rfl ?_
    rw [HP.out]
    exact ⟨rfl, ((Below.refl _ _).alloc (Nat.le_refl _) _).alloc (by simp) _⟩
end Go.Proofs.Ytbfaonojemkhdaa
