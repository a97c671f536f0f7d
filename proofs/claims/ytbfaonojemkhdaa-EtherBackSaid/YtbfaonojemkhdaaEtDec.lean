/-
  Any bytes are a frame, or refused for one reason. No conditions.
-/
import Derived.Test.YtbfaonojemkhdaaRDec
import Derived.Test.YtbfaonojemkhdaaHelp4
import Derived.Test.YtbfaonojemkhdaaMacK
import Derived.Test.YtbfaonojemkhdaaOpen
set_option linter.unusedVariables false
namespace Go.Proofs.Ytbfaonojemkhdaa
open Go.ChangeShapes Go.WideShapes Go.ChangeAt Go.RowKit

theorem eql_macs (a : Mac) (w : World) : (binOp .eql 23 (.agg #[.int .u8 a.a.toNat, .int .u8 a.b.toNat, .int .u8 a.c.toNat, .int .u8 a.d.toNat, .int .u8 a.e.toNat, .int .u8 a.f.toNat]) (.agg #[.int .u8 a.a.toNat, .int .u8 a.b.toNat, .int .u8 a.c.toNat, .int .u8 a.d.toNat, .int .u8 a.e.toNat, .int .u8 a.f.toNat])).run Try.prog w = .ok (.bool true) w := by
  have h := eql_mac a.a.toNat a.b.toNat a.c.toNat a.d.toNat a.e.toNat a.f.toNat a.a.toNat a.b.toNat a.c.toNat a.d.toNat a.e.toNat a.f.toNat w
  rw [show ∀ l : List Int, (l == l) = true from fun l => beq_self_eq_true l] at h
  exact h
set_option maxHeartbeats 400000 in
theorem frames_same (t f : Mac) (k : Int) (w : World) (A B : Option Addr) (l : List UInt8) (n1 n2 c d : Nat) (ha : Bytes w A l) (hb : Bytes w B l) (h1 : n1 = l.length) (h2 : n2 = l.length) (hl : l.length ≤ 1099511627776) :
    Calls Try.prog 26 #[frV t f k (.slice A n1 c), frV t f k (.slice B n2 d)] w fun e w' => e = .returned (.bool true) ∧ Below w.heap.size w w' := by
  subst h1 h2
  unfold frV
  have q1 := eql_macs t
  have q2 := eql_macs f
  go_enter Try.func26, Try.ntmps26
  go_wp2_with fail
  refine (same_ _ A B l l _ _ c d (by exact ha.nx (al (al (rf w) _) _)) (by exact hb.nx (al (al (rf w) _) _)) rfl rfl hl hl).mono ?_
  rintro e w1 ⟨rfl, hb1⟩
  rw [show (l == l) = true by simp]
  go_wp2
  go_ret
  exact ⟨rfl, nx (al (al (rf w) _) _) hb1⟩

-- a guarded load of a whole row
theorem wpList_load_rowG {P : Program} {ops : Array Oper} {rest : List Oper} {o : Oper} {a : Act} {w : World} {Q : Exit → Act → World → Prop} (hgd : Region.wanted o (yielded ops a.tmps) = true) (ty : TypeId) (x : Operand) (ho : o.op = .load ty x)
    (g : Nat) (hx : a.eval x = .pointer (some ⟨g, 0, none⟩)) (t : TypeId) (cs : Array Value) (fr : Nat × Nat) (d : TypeDesc) (hg : w.heap[g]? = some (.cells cs t fr))
    (hu : P.underlying ty = some d) (hd : (match d with | .struct _ | .array _ _ => true | _ => false) = true) (hi : (P.info? ty).map (·.size) = some cs.size)
    (h : wpList P ops Q rest (a.put o.dst (.agg cs)) w) : wpList P ops Q (o :: rest) a w :=
  BigFrame.wpList_want hgd fun _ hK => wp_load_row ty x ho g hx t cs fr d hg hu hd hi (hK _ _ h)
def DecsAs (f : FuncId) (l : List UInt8) (t s : Mac) (k x : Int) (dd : List UInt8) : Prop := ∀ (A : Option Addr) (n c : Nat) (W : World), Bytes W A l → n = l.length → l.length ≤ c →
  Calls Try.prog f #[.slice A n c] W fun e w' => ∃ A' n' c', e = .returned (.tuple #[frV t s k (.slice A' n' c'), .int .i64 x]) ∧ IsRow W w' dd (.slice A' n' c') ∧ Hid (n' = dd.length)
set_option maxHeartbeats 1000000 in
theorem etherDecodes_walk (A : Option Addr) (l : List UInt8) (c : Nat) (w : World) (hb : Bytes w A l) (hc : l.length ≤ c) (hl : l.length ≤ 9223372036854775807) :
    Calls Try.prog 7 #[.slice A l.length c] w fun e w' => e = .returned (.bool true) ∧ Below w.heap.size w w' := by
  by_cases h2 : 2000 < (l.length : Int)
  · go_enter Try.func7, Try.ntmps7
    go_wp2
    go_ret
    exact ⟨rfl, rf w⟩
  · obtain ⟨t, s, k, x, dd, hdd, D1, D2⟩ : ∃ t s k x dd, dd.length ≤ 2000 ∧ DecsAs 24 l t s k x dd ∧ DecsAs 25 l t s k x dd :=
      ⟨decTo l, decFrom l, decKind l, decX l, decData l, by unfold decData; split <;> simp <;> omega, fun A n c W h hn _ => decode_any A l n c W h hn, fun A n c W h hn hc => rdecode_any A l n c W h hn hc (by omega)⟩
    go_enter Try.func7, Try.ntmps7
    go_wp2_with fail
    refine (roomy _ A l _ c hb rfl (by omega)).mono ?_
    rintro e w1 ⟨g, cap, rfl, hg, hr, hb1⟩
    have i1 : (l.length : Int) ≤ cap := by have := hr.1; omega
    have i2 : l.length ≤ cap := by have := hr.1; omega
    go_wp2_with fail
    refine (D1 _ _ _ _ (hr.bytes) rfl i2).mono ?_
    rintro e w2 ⟨A2, n2, c2, rfl, hr2, hn2⟩
    unfold frV
    have bw2 : Below w.heap.size w w2 := nx hb1 hr2.2
    go_wp2_with fail
    refine (D2 _ _ _ _ (hb.nx (al bw2 _)) rfl hc).mono ?_
    rintro e w3 ⟨A3, n3, c3, rfl, hr3, hn3⟩
    unfold frV
    have hxx : ((x : Int) != x) = false := by simp
    have F2 := (Blk.new w2 41 #[.int .u8 t.a.toNat, .int .u8 t.b.toNat, .int .u8 t.c.toNat, .int .u8 t.d.toNat, .int .u8 t.e.toNat, .int .u8 t.f.toNat, .int .u8 s.a.toNat, .int .u8 s.b.toNat, .int .u8 s.c.toNat, .int .u8 s.d.toNat, .int .u8 s.e.toNat, .int .u8 s.f.toNat, .int .i64 k, .slice A2 n2 c2]).nx hr3.2
    have F3 := Blk.new w3 41 #[.int .u8 t.a.toNat, .int .u8 t.b.toNat, .int .u8 t.c.toNat, .int .u8 t.d.toNat, .int .u8 t.e.toNat, .int .u8 t.f.toNat, .int .u8 s.a.toNat, .int .u8 s.b.toNat, .int .u8 s.c.toNat, .int .u8 s.d.toNat, .int .u8 s.e.toNat, .int .u8 s.f.toNat, .int .i64 k, .slice A3 n3 c3]
    have C2 := F2.alloc (.cells #[.int .u8 t.a.toNat, .int .u8 t.b.toNat, .int .u8 t.c.toNat, .int .u8 t.d.toNat, .int .u8 t.e.toNat, .int .u8 t.f.toNat, .int .u8 s.a.toNat, .int .u8 s.b.toNat, .int .u8 s.c.toNat, .int .u8 s.d.toNat, .int .u8 s.e.toNat, .int .u8 s.f.toNat, .int .i64 k, .slice A3 n3 c3] 41)
    have bw3 : Below w.heap.size w w3 := nx (al bw2 _) hr3.2
    have e2 : Bytes w3 A2 dd := (by have h := hr2.1; rw [hn2.out] at h; exact Bytes.own h : Bytes w2 A2 dd).nx (nx (al (rf w2) _) hr3.2)
    have e3 : Bytes w3 A3 dd := by have h := hr3.1; rw [hn3.out] at h; exact Bytes.own h
    have hr3' : Roomy w3 g cap l := (hr.nx hr2.2).nx (nx (al (rf w2) _) hr3.2)
    go_wp2_with (first | (refine wpList_load_rowG (by rfl) 41 (.tmp 4) rfl _ rfl _ _ _ _ C2 Try.underlying41 rfl (by kernel_rfl) ?_) | (refine wpList_load_rowG (by rfl) 41 (.tmp 6) rfl _ rfl _ _ _ _ F3 Try.underlying41 rfl (by kernel_rfl) ?_))
    refine (frames_same t s k _ A2 A3 dd _ _ c2 c3 (by exact e2.nx (al (rf w3) _)) (by exact e3.nx (al (rf w3) _)) hn2.out hn3.out (by omega)).mono ?_
    rintro e w4 ⟨rfl, hb4⟩
    have bw4 : Below w.heap.size w w4 := nx (al bw3 _) hb4
    have hr4 : Roomy w4 g cap l := (hr3'.nx (al (rf w3) _)).nx hb4
    have D2 := C2.nx hb4
    go_wp2_with fail
    refine (stands _ A l _ g cap c hr4 (hb.nx bw4) rfl (by omega)).mono ?_
    rintro e w5 ⟨rfl, hb5⟩
    have D5 := D2.nx hb5
    have bw5 := nx bw4 hb5
    have hr5 := hr4.nx hb5
    have c13 := D5.cell 13
    simp only [List.getElem?_toArray, List.getElem?_cons_succ, List.getElem?_cons_zero] at c13
    go_wp2_with fail
    have own2 : w5.ownsRow (w1.heap.size) 5 1 (.slice A2 n2 c2) n2 (Lib.byteCells dd) := by
      have h := own_nx (own_nx (own_nx (own_nx hr2.1 (nx (al (rf w2) _) hr3.2)) (al (rf w3) (.cells #[.int .u8 t.a.toNat, .int .u8 t.b.toNat, .int .u8 t.c.toNat, .int .u8 t.d.toNat, .int .u8 t.e.toNat, .int .u8 t.f.toNat, .int .u8 s.a.toNat, .int .u8 s.b.toNat, .int .u8 s.c.toNat, .int .u8 s.d.toNat, .int .u8 s.e.toNat, .int .u8 s.f.toNat, .int .i64 k, .slice A3 n3 c3] 41))) hb4) hb5
      rw [← hn2.out] at h
      exact h
    refine (spoil _ A2 n2 c2 _ own2 (by rw [hn2.out]; omega) (by have := hr2.2.size; have := hr3.2.size; have := hb4.size; have := hb5.size; simp at *; omega)).mono ?_
    rintro e w6 ⟨rfl, hb6⟩
    have bw6 : Below w.heap.size w w6 := bw5.trans (hb6.mono hb1.size)
    have hr6 : Roomy w6 g cap l := hr5.below hb6 (by have := hr.2.2.1; omega)
    go_wp2_with fail
    refine (stands _ A l _ g cap c hr6 (hb.nx bw6) rfl (by omega)).mono ?_
    rintro e w7 ⟨rfl, hb7⟩
    go_wp2_with fail
    refine (known _).mono ?_
    rintro e w8 ⟨rfl, hb8⟩
    go_wp2
    go_ret
    exact ⟨rfl, nx (nx bw6 hb7) hb8⟩

set_option maxRecDepth 100000 in
theorem etherDecodes_lifted (os : Os) (started : os.Started) (H : Type) (enc : TypeId × Value → H) :
    ReturnsInHanded {} Try.checked os 7 .any (Rows.etherDecodesSpec.pre6 enc Try.prog Try.f7 Rows.etherDecodesRow.domain false) (Rows.etherDecodesSpec.post enc Try.prog Try.f7 false true false false) :=
  law_lift started (by kernel_rfl) Try.func7
    (ChangeSpec.witness6 (enc := enc) (C := Try.checked) false ⟨#[], #[.slice none 0 0], []⟩ 8 (by kernel_rfl) (by kernel_rfl) (by kernel_rfl) (by kernel_rfl))
    rfl rfl Try.underlying4 (by kernel_rfl) (fun ds h => match ds, h with | [_], _ => rfl)
    (fun W base args ds p hval hA hsz => by
      rw [Try.params7] at hA hval
      obtain ⟨v0, d0, rfl, rfl, h0⟩ := trodAll_one hA
      obtain ⟨A, l, c, rfl, hb, hl, hc⟩ := open_bytes2 (hval 0 39 v0 rfl rfl) h0
      exact etherDecodes_walk A l c W hb hc (by unfold maxLen at hl; omega))

theorem etherDecodes_holds : Rows.EtherDecodesSaid :=
  OpenClaim.holds_of_wide 7 Try.f7 rfl rfl rfl rfl rfl rfl rfl ⟨rfl, rfl, rfl, rfl, rfl⟩ rfl rfl rfl rfl rfl (by kernel_rfl) Try.func7 (by kernel_rfl)
    (of_decide_eq_true (by kernel_rfl)) (by unfold Func.isWrapper; rw [if_neg (of_decide_eq_false (by kernel_rfl))]; exact ⟨rfl, rfl⟩)
    (fun os started H enc _ => etherDecodes_lifted os started H enc)
end Go.Proofs.Ytbfaonojemkhdaa
