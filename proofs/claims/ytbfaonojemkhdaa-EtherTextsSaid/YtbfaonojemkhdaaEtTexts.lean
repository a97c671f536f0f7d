/-
  Every Ethernet address has its text, which is read as it. No conditions.
-/
import Derived.Test.YtbfaonojemkhdaaMacK
set_option linter.unusedVariables false
namespace Go.Proofs.Ytbfaonojemkhdaa
open Go.ChangeShapes Go.WideShapes Go.ChangeAt Go.RowKit

theorem hexv_hx_fin : ∀ n : Fin 16, hexv (hx n.val).toNat = n.val := by decide +kernel
theorem hexv_hx (n : Nat) (h : n < 16) : hexv (hx n).toNat = n := hexv_hx_fin ⟨n, h⟩
theorem txt_eq (m : Mac) : m.txt = [hx (m.a.toNat / 16), hx (m.a.toNat % 16), 58, hx (m.b.toNat / 16), hx (m.b.toNat % 16), 58, hx (m.c.toNat / 16), hx (m.c.toNat % 16), 58,
    hx (m.d.toNat / 16), hx (m.d.toNat % 16), 58, hx (m.e.toNat / 16), hx (m.e.toNat % 16), 58, hx (m.f.toNat / 16), hx (m.f.toNat % 16)] := by
  simp [Mac.txt, txtTo, Mac.l]
theorem u8_self (a : UInt8) : u8 (16 * ((a.toNat / 16 : Nat) : Int) + ((a.toNat % 16 : Nat) : Int)) = a := by
  have h : (16 * ((a.toNat / 16 : Nat) : Int) + ((a.toNat % 16 : Nat) : Int)).toNat = a.toNat := by omega
  unfold u8
  rw [h]; simp
theorem parse_txt (m : Mac) : parseM m.txt = (m, 0) := by
  have ha := m.a.toNat_lt; have hb := m.b.toNat_lt; have hc := m.c.toNat_lt; have hd := m.d.toNat_lt; have he := m.e.toNat_lt; have hf := m.f.toNat_lt
  have q : ∀ i, i < 17 → if i % 3 = 2 then m.txt.getD i 0 = 58 else 0 ≤ hv m.txt i := by
    intro i hi
    rw [txt_eq]
    match i, hi with
    | 0, _ => simp [hv, hexv_hx _ (show m.a.toNat / 16 < 16 by omega)]; omega
    | 1, _ => simp [hv, hexv_hx _ (show m.a.toNat % 16 < 16 by omega)]; omega
    | 2, _ => simp
    | 3, _ => simp [hv, hexv_hx _ (show m.b.toNat / 16 < 16 by omega)]; omega
    | 4, _ => simp [hv, hexv_hx _ (show m.b.toNat % 16 < 16 by omega)]; omega
    | 5, _ => simp
    | 6, _ => simp [hv, hexv_hx _ (show m.c.toNat / 16 < 16 by omega)]; omega
    | 7, _ => simp [hv, hexv_hx _ (show m.c.toNat % 16 < 16 by omega)]; omega
    | 8, _ => simp
    | 9, _ => simp [hv, hexv_hx _ (show m.d.toNat / 16 < 16 by omega)]; omega
    | 10, _ => simp [hv, hexv_hx _ (show m.d.toNat % 16 < 16 by omega)]; omega
    | 11, _ => simp
    | 12, _ => simp [hv, hexv_hx _ (show m.e.toNat / 16 < 16 by omega)]; omega
    | 13, _ => simp [hv, hexv_hx _ (show m.e.toNat % 16 < 16 by omega)]; omega
    | 14, _ => simp
    | 15, _ => simp [hv, hexv_hx _ (show m.f.toNat / 16 < 16 by omega)]; omega
    | 16, _ => simp [hv, hexv_hx _ (show m.f.toNat % 16 < 16 by omega)]; omega
    | i + 17, h => exact absurd h (by omega)
  rw [parseM_ok _ (by rw [txt_eq]; rfl) q]
  have e : macOf m.txt = m := by
    have p0 : pb m.txt 0 = 16 * ((m.a.toNat / 16 : Nat) : Int) + ((m.a.toNat % 16 : Nat) : Int) := by rw [txt_eq]; simp [pb, hv, hexv_hx _ (show m.a.toNat / 16 < 16 by omega), hexv_hx _ (show m.a.toNat % 16 < 16 by omega)]
    have p3 : pb m.txt 3 = 16 * ((m.b.toNat / 16 : Nat) : Int) + ((m.b.toNat % 16 : Nat) : Int) := by rw [txt_eq]; simp [pb, hv, hexv_hx _ (show m.b.toNat / 16 < 16 by omega), hexv_hx _ (show m.b.toNat % 16 < 16 by omega)]
    have p6 : pb m.txt 6 = 16 * ((m.c.toNat / 16 : Nat) : Int) + ((m.c.toNat % 16 : Nat) : Int) := by rw [txt_eq]; simp [pb, hv, hexv_hx _ (show m.c.toNat / 16 < 16 by omega), hexv_hx _ (show m.c.toNat % 16 < 16 by omega)]
    have p9 : pb m.txt 9 = 16 * ((m.d.toNat / 16 : Nat) : Int) + ((m.d.toNat % 16 : Nat) : Int) := by rw [txt_eq]; simp [pb, hv, hexv_hx _ (show m.d.toNat / 16 < 16 by omega), hexv_hx _ (show m.d.toNat % 16 < 16 by omega)]
    have p12 : pb m.txt 12 = 16 * ((m.e.toNat / 16 : Nat) : Int) + ((m.e.toNat % 16 : Nat) : Int) := by rw [txt_eq]; simp [pb, hv, hexv_hx _ (show m.e.toNat / 16 < 16 by omega), hexv_hx _ (show m.e.toNat % 16 < 16 by omega)]
    have p15 : pb m.txt 15 = 16 * ((m.f.toNat / 16 : Nat) : Int) + ((m.f.toNat % 16 : Nat) : Int) := by rw [txt_eq]; simp [pb, hv, hexv_hx _ (show m.f.toNat / 16 < 16 by omega), hexv_hx _ (show m.f.toNat % 16 < 16 by omega)]
    unfold macOf
    rw [p0, p3, p6, p9, p12, p15, u8_self, u8_self, u8_self, u8_self, u8_self, u8_self]
  rw [e]
theorem txt_len (m : Mac) : m.txt.length = 17 := by rw [txt_eq]; rfl
theorem parse_of_txt (m : Mac) (w : World) : Calls Try.prog 10 #[.string ⟨m.txt.toArray⟩] w fun e w' =>
    e = .returned (.tuple #[.agg #[.int .u8 m.a.toNat, .int .u8 m.b.toNat, .int .u8 m.c.toNat, .int .u8 m.d.toNat, .int .u8 m.e.toNat, .int .u8 m.f.toNat], .int .i64 0]) ∧ Below w.heap.size w w' :=
  (parse ⟨m.txt.toArray⟩ w (by show m.txt.toArray.size ≤ _; rw [List.size_toArray, txt_len]; decide)).mono fun e w' h => ⟨h.1.trans (by rw [show (⟨m.txt.toArray⟩ : ByteArray).data.toList = m.txt from rfl, parse_txt]; rfl), h.2⟩
set_option maxHeartbeats 400000 in
theorem etherTexts_walk (m : Mac) (w : World) : Calls Try.prog 3 #[m.v] w fun e w' => e = .returned (.bool true) ∧ Below w.heap.size w w' := by
  have hq := fun w => eql_mac m.a.toNat m.b.toNat m.c.toNat m.d.toNat m.e.toNat m.f.toNat m.a.toNat m.b.toNat m.c.toNat m.d.toNat m.e.toNat m.f.toNat w
  rw [(Mac.beq_iff m m).2 rfl] at hq
  unfold Mac.v
  go_enter Try.func3, Try.ntmps3
  go_wp2_with fail
  refine (text m _).mono ?_
  rintro e w1 ⟨rfl, hb1⟩
  go_wp2_with fail
  refine (parse_of_txt m _).mono ?_
  rintro e w2 ⟨rfl, hb2⟩
  have B0 := (Blk.new w 23 #[.int .u8 m.a.toNat, .int .u8 m.b.toNat, .int .u8 m.c.toNat, .int .u8 m.d.toNat, .int .u8 m.e.toNat, .int .u8 m.f.toNat]).nx hb1
  have K := fun o => cells6 ((B0.nx hb2).alloc o)
  go_wp2_with fail
  refine (rtext m _).mono ?_
  rintro e w3 ⟨rfl, hb3⟩
  clear K
  have K := cells6 (((B0.nx hb2).alloc (.cells #[.int .u8 m.a.toNat, .int .u8 m.b.toNat, .int .u8 m.c.toNat, .int .u8 m.d.toNat, .int .u8 m.e.toNat, .int .u8 m.f.toNat] 23)).nx hb3)
  have K2 := cells6 ((Blk.new w2 23 #[.int .u8 m.a.toNat, .int .u8 m.b.toNat, .int .u8 m.c.toNat, .int .u8 m.d.toNat, .int .u8 m.e.toNat, .int .u8 m.f.toNat]).nx hb3)
  go_wp2_with fail
  refine (known _).mono ?_
  rintro e w4 ⟨rfl, hb4⟩
  go_wp2
  go_ret
  exact ⟨rfl, nx (nx (al (nx (nx (al (rf w) _) hb1) hb2) _) hb3) hb4⟩

set_option maxRecDepth 100000 in
theorem etherTexts_lifted (os : Os) (started : os.Started) (H : Type) (enc : TypeId × Value → H) :
    ReturnsInHanded {} Try.checked os 3 .any (Rows.etherTextsSpec.pre6 enc Try.prog Try.f3 Rows.etherTextsRow.domain false) (Rows.etherTextsSpec.post enc Try.prog Try.f3 false true false false) :=
  law_lift started (by kernel_rfl) Try.func3
    (ChangeSpec.witness6 (enc := enc) (C := Try.checked) false ⟨#[], #[.agg #[.int .u8 0, .int .u8 0, .int .u8 0, .int .u8 0, .int .u8 0, .int .u8 0]], []⟩ 8 (by kernel_rfl) (by kernel_rfl) (by kernel_rfl) (by kernel_rfl))
    rfl rfl Try.underlying4 (by kernel_rfl) (fun ds h => match ds, h with | [_], _ => rfl)
    (fun W base args ds p hval hA hsz => by
      rw [Try.params3] at hA hval
      obtain ⟨v0, d0, rfl, rfl, h0⟩ := trodAll_one hA
      obtain ⟨m, rfl⟩ := open_mac (hval 0 23 v0 rfl rfl) h0
      exact etherTexts_walk m W)

theorem etherTexts_holds : Rows.EtherTextsSaid :=
  OpenClaim.holds_of_wide 3 Try.f3 rfl rfl rfl rfl rfl rfl rfl ⟨rfl, rfl, rfl, rfl, rfl⟩ rfl rfl rfl rfl rfl (by kernel_rfl) Try.func3 (by kernel_rfl)
    (of_decide_eq_true (by kernel_rfl)) (by unfold Func.isWrapper; rw [if_neg (of_decide_eq_false (by kernel_rfl))]; exact ⟨rfl, rfl⟩)
    (fun os started H enc _ => etherTexts_lifted os started H enc)
end Go.Proofs.Ytbfaonojemkhdaa
