/-
  Which frames are taken: the program's Takes and the reference's, by one plain rule.
-/
import Derived.Test.YtbfaonojemkhdaaMacK
set_option linter.unusedVariables false
namespace Go.Proofs.Ytbfaonojemkhdaa
open Go.RowKit Go.ChangeShapes Go.WideShapes Go.ChangeAt

-- a slice of addresses that came in: its elements, each a number of 32 bits
def Addrs (w : World) (A : Option Addr) (xs : List Int) : Prop := Reads w w.heap.size 1 A xs.length (xs.map (Value.int .u32)) ∧ (∀ x ∈ xs, 0 ≤ x ∧ x ≤ 4294967295) ∧ xs.length ≤ 9223372036854775807
theorem Addrs.nx {w w' : World} {A : Option Addr} {xs : List Int} (h : Addrs w A xs) (k : Below w.heap.size w w') : Addrs w' A xs := ⟨(h.1.below k).more k.size, h.2⟩
noncomputable def takesTo (me to : Mac) (xs : List Int) : Bool := to.same me || to.same allMac || xs.any fun x => to.same (groupMac x)

theorem takesTo_1 {me to : Mac} {xs : List Int} (h : to.same me = true) : takesTo me to xs = true := by simp [takesTo, h]
theorem takesTo_2 {me to : Mac} {xs : List Int} (h : to.same allMac = true) : takesTo me to xs = true := by simp [takesTo, h]
theorem takesTo_3 {me to : Mac} {xs : List Int} {k : Nat} (hk : k < xs.length) (h : to.same (groupMac xs[k]) = true) : takesTo me to xs = true := by
  have : xs.any (fun x => to.same (groupMac x)) = true := List.any_eq_true.2 ⟨xs[k], List.getElem_mem hk, h⟩
  simp [takesTo, this]
theorem takesTo_no {me to : Mac} {xs : List Int} (h1 : to.same me = false) (h2 : to.same allMac = false) (h3 : ∀ j, (hj : j < xs.length) → to.same (groupMac xs[j]) = false) : takesTo me to xs = false := by
  have : xs.any (fun x => to.same (groupMac x)) = false := by
    rw [List.any_eq_false]
    intro x hx
    obtain ⟨j, hj, rfl⟩ := List.getElem_of_mem hx
    simp [h3 j hj]
  simp [takesTo, h1, h2, this]
theorem Addrs.at_ {w : World} {A : Option Addr} {xs : List Int} (h : Addrs w A xs) {k : Nat} (hk : k < xs.length) : ∃ ad, A = some ad ∧ ad.block < w.heap.size ∧ w.cell? (ad.add k) = some (.int .u32 xs[k]) := by
  obtain ⟨ad, u, hA, hb, hu, hc⟩ := h.1.at_ hk
  refine ⟨ad, hA, hb, hc.trans ?_⟩
  rw [List.getElem?_map, List.getElem?_eq_getElem hk] at hu
  exact hu.symm

theorem keepc {C D : Prop} {W w1 w : World} {g : Nat} {t : TypeId} {c0 c1 c2 c3 c4 c5 : Value} {X : World → Prop} (hX : ∀ w', Below W.heap.size W w' → X w') (h : Blk W g t #[c0, c1, c2, c3, c4, c5]) (hS : D ∧ C ∧ Below W.heap.size W w1) (k : Below w1.heap.size w1 w) :
    X w ∧ (w.cell? ⟨g, 0, none⟩ = some c0 ∧ w.cell? ⟨g, 1, none⟩ = some c1 ∧ w.cell? ⟨g, 2, none⟩ = some c2 ∧ w.cell? ⟨g, 3, none⟩ = some c3 ∧ w.cell? ⟨g, 4, none⟩ = some c4 ∧ w.cell? ⟨g, 5, none⟩ = some c5) ∧ Below W.heap.size W w :=
  ⟨hX w (hS.2.2.trans (k.mono hS.2.2.size)), keep6 h (hS.2.2.trans (k.mono hS.2.2.size))⟩
set_option maxHeartbeats 400000 in
theorem takes (me to : Mac) (A : Option Addr) (xs : List Int) (c : Nat) (w : World) (hA : Addrs w A xs) :
    Calls Try.prog 14 #[me.v, .slice A xs.length c, to.v] w fun e w' => e = .returned (.bool (takesTo me to xs)) ∧ Below w.heap.size w w' := by
  have hq1 := eql_ll to me
  have hq2 := eql_all to
  have hq3 := eql_ll to
  have hlen := hA.2.2
  unfold Mac.v
  cases h1 : to.same me
  · rw [h1] at hq1
    have H1 := Lib.hid h1; clear h1
    cases h2 : to.same allMac
    · rw [h2] at hq2
      have H2 := Lib.hid h2; clear h2
      go_enter Try.func14, Try.ntmps14
      go_wp2
      go_loopw [8, 19] (fun _ i wr => ∃ k : Nat, k ≤ xs.length ∧ i = .int .i64 k ∧ (∀ j, (hj : j < xs.length) → j < k → to.same (groupMac xs[j]) = false) ∧ Blk wr (w.heap.size + 1) 23 #[.int .u8 to.a.toNat, .int .u8 to.b.toNat, .int .u8 to.c.toNat, .int .u8 to.d.toNat, .int .u8 to.e.toNat, .int .u8 to.f.toNat] ∧ Below w.heap.size w wr) (fun _ i _ => xs.length - (intOf i).toNat)
      case atStart => exact ⟨0, by omega, rfl, fun j hj h => absurd h (by omega), heap_alloc2_new _ _ _, al (al (rf w) _) _⟩
      case round =>
        obtain ⟨k, hk, rfl, hno, hB, hbl⟩ := hrel
        have HNO := Lib.hid hno; clear hno
        by_cases hlt : k < xs.length
        · obtain ⟨ad, rfl, hab, hcell⟩ := (hA.nx hbl).at_ hlt
          have hx := hA.2.1 xs[k] (List.getElem_mem hlt)
          go_wp2_with fail
          go_region_held3 (fun w' => (w'.cell? ⟨w.heap.size + 1, 0, none⟩ = some (.int .u8 to.a.toNat) ∧ w'.cell? ⟨w.heap.size + 1, 1, none⟩ = some (.int .u8 to.b.toNat) ∧ w'.cell? ⟨w.heap.size + 1, 2, none⟩ = some (.int .u8 to.c.toNat) ∧ w'.cell? ⟨w.heap.size + 1, 3, none⟩ = some (.int .u8 to.d.toNat) ∧ w'.cell? ⟨w.heap.size + 1, 4, none⟩ = some (.int .u8 to.e.toNat) ∧ w'.cell? ⟨w.heap.size + 1, 5, none⟩ = some (.int .u8 to.f.toNat)) ∧ Below wr.heap.size wr w')
            (first | exact keep6 hB (rf _).drew | exact keep6n hB (by assumption) (by assumption))
            (first | (go_at_call 16; refine (ofGroup_lit _ _ hx.1 hx.2).mono ?_; rintro e w' ⟨rfl, hb⟩))
          cases h3 : to.same (groupMac xs[k])
          · go_wp2
            go_roundw
            case rel => exact ⟨k + 1, by omega, by go_num, (fun j hj hjk => by
              by_cases hj' : j < k
              · exact HNO.out j hj hj'
              · obtain rfl : j = k := by omega
                exact h3), hB.nx (nx (rf _).drew hb), nx hbl.drew hb⟩
            case measure => simp [intOf]; omega
          · have H3 := Lib.hid h3
            go_wp2
            go_ret
            exact ⟨ret_bool (takesTo_3 hlt H3.out).symm, nx hbl.drew hb⟩
        · go_wp2
          go_ret
          exact ⟨ret_bool (takesTo_no H1.out H2.out (fun j hj => HNO.out j hj (by omega))).symm, hbl⟩
    · rw [h2] at hq2
      have H2 := Lib.hid h2; clear h2
      go_enter Try.func14, Try.ntmps14
      go_wp2
      go_ret
      exact ⟨ret_bool (takesTo_2 H2.out).symm, al (al (rf w) _) _⟩
  · rw [h1] at hq1
    have H1 := Lib.hid h1; clear h1
    go_enter Try.func14, Try.ntmps14
    go_wp2
    go_ret
    exact ⟨ret_bool (takesTo_1 H1.out).symm, al (al (rf w) _) _⟩

set_option maxHeartbeats 400000 in
theorem rtakes (me to : Mac) (A : Option Addr) (xs : List Int) (c : Nat) (w : World) (hA : Addrs w A xs) :
    Calls Try.prog 15 #[me.v, .slice A xs.length c, to.v] w fun e w' => e = .returned (.bool (takesTo me to xs)) ∧ Below w.heap.size w w' := by
  have hq1 := eql_ll to me
  have hq2 := eql_all to
  have hq3 := fun n => (fun w => (eql_ll n to w).trans (by rw [Mac.same_comm]) : ∀ w, _ = Result.ok (Value.bool (to.same n)) w)
  have hlen := hA.2.2
  unfold Mac.v
  cases h1 : to.same me
  · rw [h1] at hq1
    have H1 := Lib.hid h1; clear h1
    cases h2 : to.same allMac
    · rw [h2] at hq2
      have H2 := Lib.hid h2; clear h2
      go_enter Try.func15, Try.ntmps15
      go_wp2
      go_loopw [7] (fun i wr => ∃ k : Nat, k ≤ xs.length ∧ i = .int .i64 k ∧ (∀ j, (hj : j < xs.length) → j < k → to.same (groupMac xs[j]) = false) ∧ Blk wr (w.heap.size + 1) 23 #[.int .u8 to.a.toNat, .int .u8 to.b.toNat, .int .u8 to.c.toNat, .int .u8 to.d.toNat, .int .u8 to.e.toNat, .int .u8 to.f.toNat] ∧ Below w.heap.size w wr) (fun i _ => xs.length - (intOf i).toNat)
      case atStart => exact ⟨0, by omega, rfl, fun j hj h => absurd h (by omega), heap_alloc2_new _ _ _, al (al (rf w) _) _⟩
      case round =>
        obtain ⟨k, hk, rfl, hno, hB, hbl⟩ := hrel
        have HNO := Lib.hid hno; clear hno
        by_cases hlt : k < xs.length
        · obtain ⟨ad, rfl, hab, hcell⟩ := (hA.nx hbl).at_ hlt
          have hx := hA.2.1 xs[k] (List.getElem_mem hlt)
          have hxk : ∀ w', Below wr.heap.size wr w' → w'.cell? (ad.add k) = some (.int .u32 xs[k]) := fun w' h => (h.cell (by rw [block_of_add]; exact hab)).trans hcell
          have HXK := Lib.hid hxk; clear hxk
          have i0 : (0 : Int) ≤ k := by omega
          have i1 : (k : Int) < xs.length := by omega
          go_wp2_with fail
          go_region_held3 (fun w' => w'.cell? (ad.add k) = some (.int .u32 xs[k]) ∧ (w'.cell? ⟨w.heap.size + 1, 0, none⟩ = some (.int .u8 to.a.toNat) ∧ w'.cell? ⟨w.heap.size + 1, 1, none⟩ = some (.int .u8 to.b.toNat) ∧ w'.cell? ⟨w.heap.size + 1, 2, none⟩ = some (.int .u8 to.c.toNat) ∧ w'.cell? ⟨w.heap.size + 1, 3, none⟩ = some (.int .u8 to.d.toNat) ∧ w'.cell? ⟨w.heap.size + 1, 4, none⟩ = some (.int .u8 to.e.toNat) ∧ w'.cell? ⟨w.heap.size + 1, 5, none⟩ = some (.int .u8 to.f.toNat)) ∧ Below wr.heap.size wr w')
            (first | exact ⟨HXK.out _ (rf _).drew, keep6 hB (rf _).drew⟩ | exact keepc HXK.out hB (by assumption) (by assumption))
            (first | (go_at_call 17; refine (rofGroup_lit _ _ hx.1 hx.2).mono ?_; rintro e w' ⟨rfl, hb⟩))
          cases h3 : to.same (groupMac xs[k])
          · go_wp2
            go_roundw
            case rel => exact ⟨k + 1, by omega, by go_num, (fun j hj hjk => by
              by_cases hj' : j < k
              · exact HNO.out j hj hj'
              · obtain rfl : j = k := by omega
                exact h3), hB.nx (nx (rf _).drew hb), nx hbl.drew hb⟩
            case measure => simp [intOf]; omega
          · have H3 := Lib.hid h3
            go_wp2
            go_ret
            exact ⟨ret_bool (takesTo_3 hlt H3.out).symm, nx hbl.drew hb⟩
        · go_wp2
          go_ret
          exact ⟨ret_bool (takesTo_no H1.out H2.out (fun j hj => HNO.out j hj (by omega))).symm, hbl⟩
    · rw [h2] at hq2
      have H2 := Lib.hid h2; clear h2
      go_enter Try.func15, Try.ntmps15
      go_wp2
      go_ret
      exact ⟨ret_bool (takesTo_2 H2.out).symm, al (al (rf w) _) _⟩
  · rw [h1] at hq1
    have H1 := Lib.hid h1; clear h1
    go_enter Try.func15, Try.ntmps15
    go_wp2
    go_ret
    exact ⟨ret_bool (takesTo_1 H1.out).symm, al (al (rf w) _) _⟩
end Go.Proofs.Ytbfaonojemkhdaa
