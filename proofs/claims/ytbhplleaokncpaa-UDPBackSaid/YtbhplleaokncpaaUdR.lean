/-
  The reference's sum of a datagram.
-/
import Derived.Test.YtbhplleaokncpaaUdE
import Derived.Test.YtbhplleaokncpaaOctR1
set_option linter.unusedVariables false
namespace Go.Proofs.Ytbhplleaokncpaa
open Go.RowKit

theorem own_bytes {w : World} {base : Nat} {A : Option Addr} {n c : Nat} {l : List UInt8} (h : w.ownsRow base 5 1 (.slice A n c) n (Lib.byteCells l)) : n = l.length ∧ Bytes w A l := by
  have e : n = l.length := by have := h.1; rw [byteCells_len] at this; omega
  subst e
  exact ⟨rfl, Bytes.own h⟩
theorem rtwoR (w : World) (v : Int) (h0 : 0 ≤ v) (h1 : v ≤ 65535) :
    Calls Try.prog 48 #[.int .i64 v] w fun e w' => e = .returned (.slice (some ⟨w.heap.size, 0, none⟩) 2 2) ∧ w'.ownsRow w.heap.size 5 1 (.slice (some ⟨w.heap.size, 0, none⟩) 2 2) 2 (Lib.byteCells (beB v.toNat 2)) ∧ Below w.heap.size w w' := by
  refine (rtwo w v h0 h1).mono ?_
  rintro e w' ⟨rfl, rfl⟩
  refine ⟨rfl, ?_, al (rf w) _⟩
  rw [beB_two v h0 h1]
  exact own_lit w #[.int .u8 (v / 256), .int .u8 (v % 256)] 2 rfl (Nat.le_refl _) (by unfold maxLen; omega) rfl
theorem beB_four (v : Int) (h0 : 0 ≤ v) (h1 : v ≤ 4294967295) : Lib.byteCells (beB v.toNat 4) = [.int .u8 (v / 16777216), .int .u8 (v / 65536 % 256), .int .u8 (v / 256 % 256), .int .u8 (v % 256)] := by
  have e1 : ((UInt8.ofNat (v.toNat / 256 ^ 3 % 256)).toNat : Int) = v / 16777216 := by simp only [Nat.reducePow, UInt8.toNat_ofNat']; omega
  have e2 : ((UInt8.ofNat (v.toNat / 256 ^ 2 % 256)).toNat : Int) = v / 65536 % 256 := by simp only [Nat.reducePow, UInt8.toNat_ofNat']; omega
  have e3 : ((UInt8.ofNat (v.toNat / 256 ^ 1 % 256)).toNat : Int) = v / 256 % 256 := by simp only [Nat.reducePow, UInt8.toNat_ofNat']; omega
  have e4 : ((UInt8.ofNat (v.toNat / 256 ^ 0 % 256)).toNat : Int) = v % 256 := by simp only [Nat.reducePow, UInt8.toNat_ofNat']; omega
  simp only [beB, Lib.byteCells, List.map_cons, List.map_nil, e1, e2, e3, e4]
set_option maxHeartbeats 400000 in
theorem rfourR (w : World) (v : Int) (h0 : 0 ≤ v) (h1 : v ≤ 4294967295) :
    Calls Try.prog 69 #[.int .u32 v] w fun e w' => e = .returned (.slice (some ⟨w.heap.size, 0, none⟩) 4 4) ∧ w'.ownsRow w.heap.size 5 1 (.slice (some ⟨w.heap.size, 0, none⟩) 4 4) 4 (Lib.byteCells (beB v.toNat 4)) ∧ Below w.heap.size w w' := by
  have b1 : v / 16777216 ≤ 255 := by omega
  have b0 : 0 ≤ v / 16777216 := by omega
  have hown := own_lit (base := w.heap.size) (e := 5) (size := 1) w #[.int .u8 (v / 16777216), .int .u8 (v / 65536 % 256), .int .u8 (v / 256 % 256), .int .u8 (v % 256)] 4 rfl (Nat.le_refl _) (by unfold maxLen; omega) rfl
  have HE := Lib.hid (beB_four v h0 h1)
  have HO := Lib.hid hown; clear hown
  go_enter Try.func69, Try.ntmps69
  go_wp2
  go_ret
  rw [HE.out]
  exact ⟨rfl, HO.out, al (rf w) _⟩
set_option maxHeartbeats 1600000 in
theorem pseF (fr to_ : Int) (n : Nat) (w : World) (f0 : 0 ≤ fr) (f1 : fr ≤ 4294967295) (t0 : 0 ≤ to_) (t1 : to_ ≤ 4294967295) (hn : n ≤ 65535) :
    Calls Try.prog 64 #[.int .u32 fr, .int .u32 to_, .int .i64 17, .int .i64 n] w fun e w' => ∃ v, e = .returned v ∧ w'.ownsRow w.heap.size 5 1 v 12 (Lib.byteCells (pseB fr to_ n)) ∧ Below w.heap.size w w' := by
  go_enter Try.func64, Try.ntmps64
  go_wp2_with fail
  refine (rfourR _ fr f0 f1).mono ?_
  rintro e w1 ⟨rfl, o1, b1⟩
  have z1 := b1.size
  have l1 := o1
  go_wp2_with fail
  refine (rfourR _ to_ t0 t1).mono ?_
  rintro e w2 ⟨rfl, o2, b2⟩
  have z2 := b2.size
  have O1 := Lib.hid (own_nx o1 b2)
  have R2 := Lib.hid (own_bytes o2).2
  have B2 := Lib.hid (nx b1 b2)
  clear o1 o2 b1 b2 l1
  go_wp2_with (first
    | (at_builtin; refine app_any stB rfl (.tmp 11) (.tmp 13) rfl w.heap.size _ 4 _ rfl O1.out _ 4 4 (Lib.byteCells (beB to_.toNat 4)) rfl R2.out (one_u8 _) (by omega) (by omega) (by omega) ?_; intro v3 w3 own3 gr3 at3 bel3; obtain ⟨A3, c3, rfl⟩ := own_slice own3; clear gr3 at3)
    | (at_builtin; refine app_any stB rfl (.tmp 15) (.tmp 18) rfl w.heap.size _ 8 _ rfl (own3.alloc _) _ 2 2 [.int .u8 0, .int .u8 17] rfl (Reads.blk (blk_at _ _ _ rfl) rfl rfl) (by simp [Value.oneCell']) (by omega) (by omega) (by have := bel3.size; simp; omega) ?_; intro v4 w4 own4 gr4 at4 bel4; obtain ⟨A4, c4, rfl⟩ := own_slice own4; clear gr4 at4))
  have z3 := bel3.size
  have z4 := bel4.size
  simp at z4
  have B4 : Below w.heap.size w w4 := (B2.out.trans bel3).trans (((rf w3).mono (by omega)).trans ((al (rf w3) _).mono (by omega)) |>.trans bel4)
  have O4 := Lib.hid own4
  have HB4 := Lib.hid B4
  clear own3 own4 bel3 bel4 B4
  refine (rtwoR _ (n : Int) (by omega) (by omega)).mono ?_
  rintro e w5 ⟨rfl, o5, b5⟩
  have z5 := b5.size
  have O5 := Lib.hid (own_nx O4.out b5)
  have R5 := Lib.hid (own_bytes o5).2
  have B5 := Lib.hid (nx HB4.out b5)
  clear o5 b5
  go_wp2_with (at_builtin; refine app_any stB rfl (.tmp 19) (.tmp 21) rfl w.heap.size _ 10 _ rfl O5.out _ 2 2 (Lib.byteCells (beB (n : Int).toNat 2)) rfl R5.out (one_u8 _) (by omega) (by omega) (by omega) ?_; intro v6 w6 own6 gr6 at6 bel6)
  go_ret
  refine ⟨v6, rfl, ?_, B5.out.trans bel6⟩
  have e17 : Lib.byteCells (beB 17 2) = [.int .u8 0, .int .u8 17] := beB_two 17 (by decide) (by decide)
  have e : Lib.byteCells (pseB fr to_ n) = Lib.byteCells (beB fr.toNat 4) ++ Lib.byteCells (beB to_.toNat 4) ++ [.int .u8 0, .int .u8 17] ++ Lib.byteCells (beB (n : Int).toNat 2) := by
    unfold pseB; rw [byteCells_app, byteCells_app, byteCells_app, e17, Int.toNat_natCast]
  rw [e]
  exact own6
set_option maxHeartbeats 400000 in
theorem joinF (a b : Nat) (w : World) (h1 : a ≤ 65535) (h2 : b ≤ 65535) :
    Calls Try.prog 62 #[.int .i64 a, .int .i64 b] w fun e w' => e = .returned (.int .i64 (oc (a + b))) ∧ w' = w := by
  have e1 : bits .and .i64 (a : Int) 65535 = a := by rw [and16 _ (by omega) (by omega)]; omega
  have e2 : bits .and .i64 (b : Int) 65535 = b := by rw [and16 _ (by omega) (by omega)]; omega
  have a1 : (a : Int) ≤ 65535 := by omega
  have b1 : (b : Int) ≤ 65535 := by omega
  have HT : Hid (((a : Int) + b).toNat = a + b) := by show Int.toNat _ = _; omega
  clear h1 h2
  go_enter Try.func62, Try.ntmps62
  go_wp2_with fail
  refine (foldF _ _ (by omega) (by omega)).mono ?_
  rintro e w1 ⟨rfl, rfl⟩
  rw [HT.out]
  go_wp2
  go_ret
  exact ⟨rfl, rfl⟩
theorem wst_append (p b : List UInt8) (hp : p.length % 2 = 0) : ∀ k, k ≤ b.length → wst (p ++ b) (p.length + k) = wst p p.length + wst b k
  | 0, _ => by
    have h : ∀ j, j ≤ p.length → wst (p ++ b) j = wst p j := by
      intro j
      induction j with
      | zero => intro _; rfl
      | succ j ih =>
        intro hj
        simp only [wst]
        rw [ih (by omega)]
        congr 2
        rw [List.getD_eq_getElem?_getD, List.getD_eq_getElem?_getD, List.getElem?_append_left (by omega)]
    rw [Nat.add_zero, h _ (Nat.le_refl _)]; rfl
  | k + 1, hk => by
    have ih := wst_append p b hp k (by omega)
    have hs : wst (p ++ b) (p.length + (k + 1)) = wst (p ++ b) (p.length + k) + ((p ++ b).getD (p.length + k) 0).toNat * (if (p.length + k) % 2 = 0 then 256 else 1) := rfl
    have e1 : (p ++ b).getD (p.length + k) 0 = b.getD k 0 := by
      rw [List.getD_eq_getElem?_getD, List.getD_eq_getElem?_getD, List.getElem?_append_right (by omega), Nat.add_sub_cancel_left]
    have e2 : (p.length + k) % 2 = k % 2 := by omega
    rw [hs, ih, e1, e2]
    show _ = _ + (wst b k + _)
    omega
theorem sumU_parts (fr to_ : Int) (b : List UInt8) : oc (oc (wst (pseB fr to_ b.length) 12) + oc (wst b b.length)) = oc (wst (pseB fr to_ b.length ++ b) (pseB fr to_ b.length ++ b).length) := by
  have hl := pseB_len fr to_ b.length
  rw [List.length_append, wst_append _ _ (by rw [hl]) _ (Nat.le_refl _), hl, oc_add, Nat.add_comm, oc_add, Nat.add_comm]
set_option maxHeartbeats 800000 in
theorem summedF (fr to_ : Int) (A : Option Addr) (b : List UInt8) (n c : Nat) (w : World) (hb : Bytes w A b) (hn : n = b.length) (hl : b.length ≤ 65535) (f0 : 0 ≤ fr) (f1 : fr ≤ 4294967295) (t0 : 0 ≤ to_) (t1 : to_ ≤ 4294967295) :
    Calls Try.prog 49 #[.int .u32 fr, .int .u32 to_, .int .i64 17, .slice A n c] w fun e w' => e = .returned (.int .i64 (sumU fr to_ b)) ∧ Below w.heap.size w w' := by
  subst hn
  have HP := Lib.hid (sumU_parts fr to_ b)
  have HB := Lib.hid hb
  have HL := Lib.hid hl
  have hpl := pseB_len fr to_ b.length
  have HPL := Lib.hid hpl
  clear hb hl hpl
  go_enter Try.func49, Try.ntmps49
  go_wp2_with fail
  refine (pseF fr to_ b.length _ f0 f1 t0 t1 HL.out).mono ?_
  rintro e w1 ⟨v, rfl, o1, b1⟩
  obtain ⟨A1, c1, rfl⟩ := own_slice o1
  have R1 := Lib.hid (own_bytes o1).2
  have B1 := Lib.hid b1
  clear o1 b1
  go_wp2_with fail
  refine (partF A1 c1 (pseB fr to_ b.length) 12 _ R1.out HPL.out.symm (by rw [HPL.out]; decide)).mono ?_
  rintro e w2 ⟨rfl, hw2⟩
  subst hw2
  rw [HPL.out]
  go_wp2_with fail
  refine (partF A c b b.length _ (HB.out.nx B1.out) rfl (by have := HL.out; omega)).mono ?_
  rintro e w3 ⟨rfl, hw3⟩
  subst hw3
  go_wp2_with fail
  refine (joinF _ _ _ (oc_le _) (oc_le _)).mono ?_
  rintro e w4 ⟨rfl, hw4⟩
  subst hw4
  rw [HP.out]
  have hle := oc_le (wst (pseB fr to_ b.length ++ b) (pseB fr to_ b.length ++ b).length)
  have HS : Hid ((65535 : Int) - (oc (wst (pseB fr to_ b.length ++ b) (pseB fr to_ b.length ++ b).length) : Nat) = (sumU fr to_ b : Nat)) := sumB_int _
  generalize oc (wst (pseB fr to_ b.length ++ b) (pseB fr to_ b.length ++ b).length) = o at HS hle ⊢
  have hle2 : (o : Int) ≤ 65535 := by omega
  clear hle
  go_wp2
  go_ret
  exact ⟨by rw [← HS.out]; rfl, B1.out⟩
end Go.Proofs.Ytbhplleaokncpaa
