/-
  Ethernet addresses: their texts and what texts are addresses, as the program and the reference compute them.
-/
import Derived.Test.YtbfaonojemkhdaaW
import Derived.Test.YtbfaonojemkhdaaBld
import Derived.Test.YtbfaonojemkhdaaShelf
set_option linter.unusedVariables false
namespace Go.Proofs.Ytbfaonojemkhdaa
open Go.RowKit

structure Mac where
  (a b c d e f : UInt8)
def Mac.l (m : Mac) : List UInt8 := [m.a, m.b, m.c, m.d, m.e, m.f]
def Mac.at (m : Mac) (k : Nat) : UInt8 := m.l.getD k 0
def Mac.v (m : Mac) : Value := .agg #[.int .u8 m.a.toNat, .int .u8 m.b.toNat, .int .u8 m.c.toNat, .int .u8 m.d.toNat, .int .u8 m.e.toNat, .int .u8 m.f.toNat]
def hx (n : Nat) : UInt8 := (#[48, 49, 50, 51, 52, 53, 54, 55, 56, 57, 97, 98, 99, 100, 101, 102] : Array UInt8).getD n 0
def txtTo (l : List UInt8) : Nat → List UInt8
  | 0 => []
  | k + 1 => txtTo l k ++ (if k = 0 then [] else [58]) ++ [hx ((l.getD k 0).toNat / 16)] ++ [hx ((l.getD k 0).toNat % 16)]
def Mac.txt (m : Mac) : List UInt8 := txtTo m.l 6
theorem txtTo_len (l : List UInt8) (k : Nat) : (txtTo l k).length ≤ 3 * k := by
  induction k with
  | zero => simp [txtTo]
  | succ k ih => simp only [txtTo]; split <;> simp <;> omega
theorem wbyte (b : Nat) (l : List UInt8) (c : UInt8) (n : Int) (w : World) {B : Nat} (h : Lib.IsBuilder 58 5 B b (Lib.byteCells l) w) (hn : n = c.toNat) (hlen : l.length ≤ 1000000) (hBw : B ≤ w.heap.size) :
    Calls Try.prog 27 #[.pointer (some ⟨b, 0, none⟩), .int .u8 n] w fun e w' => e = .returned .nilIface ∧ Lib.IsBuilder 58 5 B b (Lib.byteCells (l ++ [c])) w' ∧ Below B w w' := by
  refine (bld_WriteByte B b (Lib.byteCells l) n w h (by rw [Lib.byteCells_length]; omega) hBw).mono ?_
  rintro e w' ⟨he, h1, h2⟩
  subst hn
  exact ⟨he, Or.inr (by simpa [Lib.byteCells] using h1), h2⟩
theorem hx_eq (n : Nat) (h : n < 16) : (⟨#[48, 49, 50, 51, 52, 53, 54, 55, 56, 57, 97, 98, 99, 100, 101, 102]⟩ : ByteArray)[n]'(by simpa [ByteArray.size] using h) = hx n := by
  simp [hx, h, ByteArray.getElem_eq_getElem_data]
theorem hx_cut (n : Nat) (h : n < 16) : (⟨#[48, 49, 50, 51, 52, 53, 54, 55, 56, 57, 97, 98, 99, 100, 101, 102]⟩ : ByteArray).extract n (n + 1) = ⟨[hx n].toArray⟩ := by
  match n, h with
  | 0, _ => rfl
  | 1, _ => rfl
  | 2, _ => rfl
  | 3, _ => rfl
  | 4, _ => rfl
  | 5, _ => rfl
  | 6, _ => rfl
  | 7, _ => rfl
  | 8, _ => rfl
  | 9, _ => rfl
  | 10, _ => rfl
  | 11, _ => rfl
  | 12, _ => rfl
  | 13, _ => rfl
  | 14, _ => rfl
  | 15, _ => rfl
  | n + 16, h => exact absurd h (by omega)
theorem mac_at (m : Mac) (k : Nat) (hk : k < 6) : (#[.int .u8 m.a.toNat, .int .u8 m.b.toNat, .int .u8 m.c.toNat, .int .u8 m.d.toNat, .int .u8 m.e.toNat, .int .u8 m.f.toNat] : Array Value)[k]? = some (.int .u8 (m.at k).toNat) := by
  match k, hk with
  | 0, _ => rfl
  | 1, _ => rfl
  | 2, _ => rfl
  | 3, _ => rfl
  | 4, _ => rfl
  | 5, _ => rfl
set_option maxHeartbeats 400000 in
theorem text (m : Mac) (w : World) :
    Calls Try.prog 9 #[m.v] w fun e w' => e = .returned (.string ⟨m.txt.toArray⟩) ∧ Below w.heap.size w w' := by
  unfold Mac.v
  go_enter Try.func9, Try.ntmps9
  go_wp2
  go_loopw [7] (fun i wr => ∃ k : Nat, k ≤ 6 ∧ i = .int .i64 k ∧ Lib.IsBuilder 58 5 w.heap.size (w.heap.size + 1) (Lib.byteCells (txtTo m.l k)) wr ∧ Below w.heap.size w wr) (fun i _ => 6 - (intOf i).toNat)
  case atStart =>
    refine ⟨0, by omega, rfl, ?_, ?_⟩
    · have h := isBuilder_new 58 5 (w.alloc (Obj.cells
            #[Value.int IntKind.u8 ↑m.a.toNat, Value.int IntKind.u8 ↑m.b.toNat, Value.int IntKind.u8 ↑m.c.toNat,
              Value.int IntKind.u8 ↑m.d.toNat, Value.int IntKind.u8 ↑m.e.toNat, Value.int IntKind.u8 ↑m.f.toNat]
            23)) w.heap.size (by simp)
      simpa [txtTo, Lib.byteCells] using h
    · exact ((Below.refl _ _).alloc (Nat.le_refl _) _).alloc (by simp) _
  case round =>
    obtain ⟨k, hk, rfl, hb, hbl⟩ := hrel
    have hz := hbl.size
    have hlen := txtTo_len m.l k
    by_cases hlt : k < 6
    · have hidx : ∀ w, (Instr.index 23 (.agg #[.int .u8 m.a.toNat, .int .u8 m.b.toNat, .int .u8 m.c.toNat, .int .u8 m.d.toNat, .int .u8 m.e.toNat, .int .u8 m.f.toNat]) (.int .i64 k)).run Try.prog w = .ok (.int .u8 (m.at k).toNat) w :=
        run_index_arr Try.underlying23 Try.sizeOf5 Try.isAgg5 _ _ k hlt _ (mac_at m k hlt)
      have hm : (m.at k).toNat < 256 := (m.at k).toNat_lt
      go_wp2_with fail
      · have h0 : 0 < k := by omega
        refine (wbyte _ _ 58 _ _ hb rfl (by omega) hz).mono ?_
        rintro e w1 ⟨rfl, hb1, hl1⟩
        have hz1 := hl1.size
        go_wp2_with fail
        refine (wbyte _ _ (hx ((m.at k).toNat / 16)) _ _ hb1 (by rw [hx_eq _ (by omega)]) (by simp; omega) (by omega)).mono ?_
        rintro e w2 ⟨rfl, hb2, hl2⟩
        have hz2 := hl2.size
        go_wp2_with fail
        refine (wbyte _ _ (hx ((m.at k).toNat % 16)) _ _ hb2 (by rw [hx_eq _ (by omega)]) (by simp; omega) (by omega)).mono ?_
        rintro e w3 ⟨rfl, hb3, hl3⟩
        go_wp2_with fail
        go_roundw
        case rel => exact ⟨k + 1, by omega, by go_num, by rw [txtTo, if_neg (by omega)]; exact hb3, ((hbl.trans hl1).trans hl2).trans hl3⟩
        case measure => simp [intOf]; omega
      · have h0 : ¬ 0 < k := by omega
        refine (wbyte _ _ (hx ((m.at k).toNat / 16)) _ _ hb (by rw [hx_eq _ (by omega)]) (by omega) (by omega)).mono ?_
        rintro e w2 ⟨rfl, hb2, hl2⟩
        have hz2 := hl2.size
        go_wp2_with fail
        refine (wbyte _ _ (hx ((m.at k).toNat % 16)) _ _ hb2 (by rw [hx_eq _ (by omega)]) (by simp; omega) (by omega)).mono ?_
        rintro e w3 ⟨rfl, hb3, hl3⟩
        go_wp2_with fail
        go_roundw
        case rel => exact ⟨k + 1, by omega, by go_num, by rw [txtTo, if_pos (by omega)]; simpa [Mac.at] using hb3, (hbl.trans hl2).trans hl3⟩
        case measure => simp [intOf]; omega
    · go_wp2_with fail
      obtain rfl : k = 6 := by omega
      refine (bld_String _ _ _ _ hb hz).mono ?_
      rintro e w1 ⟨rfl, hb1⟩
      go_wp2
      go_ret
      exact ⟨rfl, hbl.trans hb1⟩

theorem rtext_step1 (l : List UInt8) (k : Nat) (h0 : 0 < k) (n : Nat) (hn : n = (l.getD k 0).toNat) (hm : n < 256) :
    (⟨(txtTo l k).toArray⟩ : ByteArray) ++ ⟨#[58]⟩ ++ (⟨#[48, 49, 50, 51, 52, 53, 54, 55, 56, 57, 97, 98, 99, 100, 101, 102]⟩ : ByteArray).extract (n / 16) (n / 16 + 1) ++ (⟨#[48, 49, 50, 51, 52, 53, 54, 55, 56, 57, 97, 98, 99, 100, 101, 102]⟩ : ByteArray).extract (n % 16) (n % 16 + 1) = ⟨(txtTo l (k + 1)).toArray⟩ := by
  subst hn
  rw [hx_cut _ (by omega), hx_cut _ (by omega), txtTo, if_neg (by omega)]
  exact (congrArg (fun x => x ++ _ ++ _) (bytes_app _ [58])).trans (by rw [bytes_app, bytes_app])
theorem rtext_step0 (l : List UInt8) (k : Nat) (h0 : ¬ 0 < k) (n : Nat) (hn : n = (l.getD k 0).toNat) (hm : n < 256) :
    (⟨(txtTo l k).toArray⟩ : ByteArray) ++ (⟨#[48, 49, 50, 51, 52, 53, 54, 55, 56, 57, 97, 98, 99, 100, 101, 102]⟩ : ByteArray).extract (n / 16) (n / 16 + 1) ++ (⟨#[48, 49, 50, 51, 52, 53, 54, 55, 56, 57, 97, 98, 99, 100, 101, 102]⟩ : ByteArray).extract (n % 16) (n % 16 + 1) = ⟨(txtTo l (k + 1)).toArray⟩ := by
  subst hn
  rw [hx_cut _ (by omega), hx_cut _ (by omega), txtTo, if_pos (by omega), bytes_app, bytes_app]
  simp
set_option maxHeartbeats 400000 in
theorem rtext (m : Mac) (w : World) :
    Calls Try.prog 11 #[m.v] w fun e w' => e = .returned (.string ⟨m.txt.toArray⟩) ∧ Below w.heap.size w w' := by
  unfold Mac.v
  go_enter Try.func11, Try.ntmps11
  go_wp2
  go_loopw [3, 4] (fun s i wr => ∃ k : Nat, k ≤ 6 ∧ i = .int .i64 k ∧ s = .string ⟨(txtTo m.l k).toArray⟩ ∧ wr.heap[w.heap.size]? = some (.cells #[.int .u8 m.a.toNat, .int .u8 m.b.toNat, .int .u8 m.c.toNat, .int .u8 m.d.toNat, .int .u8 m.e.toNat, .int .u8 m.f.toNat] 23 (0, 0)) ∧ Below w.heap.size w wr) (fun _ i _ => 6 - (intOf i).toNat)
  case atStart => exact ⟨0, by omega, rfl, rfl, heap_alloc_new w _, (Below.refl _ _).alloc (Nat.le_refl _) _⟩
  case round =>
    obtain ⟨k, hk, rfl, rfl, hc, hbl⟩ := hrel
    have hz := hbl.size
    have hlen := txtTo_len m.l k
    have HC := Lib.hid hc; clear hc
    by_cases hlt : k < 6
    · have hcell : wr.cell? ⟨w.heap.size, k, none⟩ = some (.int .u8 (m.at k).toNat) := (cell_of_row _ _ k _ _ _ HC.out).trans (mac_at m k hlt)
      have hm : (m.at k).toNat < 256 := (m.at k).toNat_lt
      by_cases h0 : 0 < k
      · go_wp2_with fail
        go_quiet (fail)
        go_wp2
        go_roundw
        case rel => exact ⟨k + 1, by omega, by go_num, congrArg Value.string (rtext_step1 _ _ h0 _ rfl hm), HC.out, below_drewN hbl _⟩
        case measure => simp [intOf]; omega
      · go_wp2_with fail
        go_quiet (fail)
        go_wp2
        go_roundw
        case rel => exact ⟨k + 1, by omega, by go_num, congrArg Value.string (rtext_step0 _ _ h0 _ rfl hm), HC.out, below_drewN hbl _⟩
        case measure => simp [intOf]; omega
    · go_wp2
      obtain rfl : k = 6 := by omega
      go_ret
      exact ⟨rfl, hbl⟩
end Go.Proofs.Ytbfaonojemkhdaa
