/-
  IP: an address's text, in the program and in the reference.
-/
import Derived.Test.YthjpdaflgphbbaaDoorIpE
import Derived.Test.YthjpdaflgphbbaaDoorIpN
import Derived.Laws.BitsLemmas
set_option linter.unusedVariables false
namespace Go.Proofs.YthjpdaflgphbbaaDoor
open Go.RowKit

theorem stS : SliceTy Tryd.prog 65 9 1 16 (.string ByteArray.empty) := ⟨Tryd.underlying65, by kernel_rfl, rfl, by omega⟩
-- byte number k of an address, the highest first
def byt (a k : Nat) : Nat := a / 256 ^ (3 - k) % 256
theorem byt_lt (a k : Nat) : byt a k < 256 := Nat.mod_lt _ (by decide)
def strsT (a m : Nat) : List Value := (List.range m).map fun k => .string (itx (byt a k))
theorem strsT_len (a m : Nat) : (strsT a m).length = m := by simp [strsT]
theorem strsT_snoc (a m : Nat) : strsT a (m + 1) = strsT a m ++ [.string (itx (byt a m))] := by simp [strsT, List.range_succ]
def textP (a : Nat) : List UInt8 := Lib.decDigits (byt a 0) ++ 46 :: (Lib.decDigits (byt a 1) ++ 46 :: (Lib.decDigits (byt a 2) ++ 46 :: Lib.decDigits (byt a 3)))
theorem and255 (m : Int) (h0 : 0 ≤ m) (h1 : m < 4294967296) : bits .and .u32 m 255 = m % 256 :=
  bits_mask .u32 32 (by decide) (fun n h₀ h₁ => by rw [IntKind.wrap_u32]; omega) 8 (by decide) m h0 (by omega)
set_option maxHeartbeats 800000 in
theorem textC (a : Nat) (w : World) (ha : a < 4294967296) (hE : Env w) :
    Calls Tryd.prog 18 #[.int .u32 a] w fun e w' => e = .returned (.string ⟨(textP a).toArray⟩) ∧ Below w.heap.size w w' := by
  go_enter Tryd.func18, Tryd.ntmps18
  go_wp2
  go_loopw [3, 4] (fun l s wr => ∃ m : Nat, m ≤ 4 ∧ s = .int .i64 (24 - 8 * m) ∧ wr.ownsRow w.heap.size 9 1 l m (strsT a m) ∧ Below w.heap.size w wr) (fun l s _ => (intOf s + 8).toNat)
  case atStart => exact ⟨0, by omega, rfl, World.ownsRow_nil _ _ _ _, Below.refl _ _⟩
  case round =>
    obtain ⟨m, hm, rfl, own, hb⟩ := hrel
    have HO := Lib.hid own; clear own
    obtain rfl | rfl | rfl | rfl | rfl : m = 0 ∨ m = 1 ∨ m = 2 ∨ m = 3 ∨ m = 4 := by omega
    · have e1 := and255 (a / 16777216) (by omega) (by omega)
      have hz := hb.size
      go_wp2_with (first
        | (go_at_call 38; refine (itoaC _ _ (hE.nx hb) (by omega) (by omega)).mono ?_; rintro e w2 ⟨rfl, hb2⟩)
        | (at_builtin; refine app_any stS rfl (.tmp 9) (.tmp 16) rfl w.heap.size u3 0 (strsT a 0) rfl ((own_nx HO.out hb2).alloc _) _ 1 _ [_] rfl (Reads.one (blk_at _ _ _ rfl)) (by simp [Value.oneCell']) (by omega) (by omega) (by simp; have := hb2.size; omega) ?_; intro v1 w3 own1 gr1 at1 bel1))
      go_roundw
      case rel =>
        refine ⟨1, by omega, rfl, ?_, ((nx hb hb2).alloc (by have := hb2.size; omega) _).trans bel1⟩
        rw [strsT_snoc]
        exact own1
      case measure => simp [intOf]
    · have e1 := and255 (a / 65536) (by omega) (by omega)
      have hz := hb.size
      go_wp2_with (first
        | (go_at_call 38; refine (itoaC _ _ (hE.nx hb) (by omega) (by omega)).mono ?_; rintro e w2 ⟨rfl, hb2⟩)
        | (at_builtin; refine app_any stS rfl (.tmp 9) (.tmp 16) rfl w.heap.size u3 1 (strsT a 1) rfl ((own_nx HO.out hb2).alloc _) _ 1 _ [_] rfl (Reads.one (blk_at _ _ _ rfl)) (by simp [Value.oneCell']) (by omega) (by omega) (by simp; have := hb2.size; omega) ?_; intro v1 w3 own1 gr1 at1 bel1))
      go_roundw
      case rel =>
        refine ⟨2, by omega, rfl, ?_, ((nx hb hb2).alloc (by have := hb2.size; omega) _).trans bel1⟩
        rw [strsT_snoc]
        exact own1
      case measure => simp [intOf]
    · have e1 := and255 (a / 256) (by omega) (by omega)
      have hz := hb.size
      go_wp2_with (first
        | (go_at_call 38; refine (itoaC _ _ (hE.nx hb) (by omega) (by omega)).mono ?_; rintro e w2 ⟨rfl, hb2⟩)
        | (at_builtin; refine app_any stS rfl (.tmp 9) (.tmp 16) rfl w.heap.size u3 2 (strsT a 2) rfl ((own_nx HO.out hb2).alloc _) _ 1 _ [_] rfl (Reads.one (blk_at _ _ _ rfl)) (by simp [Value.oneCell']) (by omega) (by omega) (by simp; have := hb2.size; omega) ?_; intro v1 w3 own1 gr1 at1 bel1))
      go_roundw
      case rel =>
        refine ⟨3, by omega, rfl, ?_, ((nx hb hb2).alloc (by have := hb2.size; omega) _).trans bel1⟩
        rw [strsT_snoc]
        exact own1
      case measure => simp [intOf]
    · have e1 := and255 a (by omega) (by omega)
      have hz := hb.size
      go_wp2_with (first
        | (go_at_call 38; refine (itoaC _ _ (hE.nx hb) (by omega) (by omega)).mono ?_; rintro e w2 ⟨rfl, hb2⟩)
        | (at_builtin; refine app_any stS rfl (.tmp 9) (.tmp 16) rfl w.heap.size u3 3 (strsT a 3) rfl ((own_nx HO.out hb2).alloc _) _ 1 _ [_] rfl (Reads.one (blk_at _ _ _ rfl)) (by simp [Value.oneCell']) (by omega) (by omega) (by simp; have := hb2.size; omega) ?_; intro v1 w3 own1 gr1 at1 bel1))
      go_roundw
      case rel =>
        refine ⟨4, by omega, rfl, ?_, ((nx hb hb2).alloc (by have := hb2.size; omega) _).trans bel1⟩
        rw [strsT_snoc, show byt a 3 = a % 256 by simp [byt]]
        exact own1
      case measure => simp [intOf]
    · obtain ⟨g, cap, rfl, hg1, hg2, hcap, hmax, cur, hB, hsz, htk⟩ := own_form HO.out (by omega)
      have J := Tryd.strings_Join g 0 cap [itx (byt a 0), itx (byt a 1), itx (byt a 2), itx (byt a 3)] ⟨#[46]⟩ wr (fun j x hx => by
        have hj : j < 4 := by
          rcases Nat.lt_or_ge j 4 with h | h
          · exact h
          · rw [List.getElem?_eq_none (by simpa using h)] at hx; cases hx
        rw [Nat.zero_add, take_cell hB htk hj]
        have e : strsT a 4 = [itx (byt a 0), itx (byt a 1), itx (byt a 2), itx (byt a 3)].map Value.string := rfl
        rw [e, List.getElem?_map, hx]; rfl) hg2 (by simp) hcap (by
          have hl : ∀ k, (Lib.decDigits (byt a k)).length ≤ 3 := fun k => by
            rw [dec_dd (by have := byt_lt a k; omega)]; unfold dd; split
            · simp
            · split <;> simp
          have := hl 0; have := hl 1; have := hl 2; have := hl 3
          simp [Lib.join, itx]; omega)
      have HJ := Lib.hid J
      clear J hB htk hsz hmax
      go_wp2_with (go_at_call 39; refine HJ.out.mono ?_; rintro e w2 ⟨rfl, hb2⟩)
      go_ret
      refine ⟨?_, nx hb hb2⟩
      simp [Lib.join, textP, itx]

-- the reference
theorem itx_dec (n : Nat) (h : ¬ n < 10) : itx n = itx (n / 10) ++ ⟨#[UInt8.ofNat (48 + n % 10)]⟩ := by
  apply ByteArray.ext
  apply Array.ext'
  show (Lib.decDigits n).toArray.toList = _
  rw [dec_step h]
  simp [itx, ByteArray.data_append]
theorem conv1 (c : UInt8) (x : Int) (hx : x = c.toNat) (W W' : World) (g : Nat) (hB : Blk W' W.heap.size 5 #[.int .u8 x]) :
    (convert 24 9 (.slice (some ⟨W.heap.size, 0, none⟩) 1 1)).run Tryd.prog W' = .ok (.string ⟨#[c]⟩) W' := by
  subst hx
  exact run_convert_bytes_back (P := Tryd.prog) W' 24 9 5 ⟨W.heap.size, 0, none⟩ 1 [c] Tryd.underlying24 Tryd.underlying5 Tryd.underlying9 (fun j hj => by
    obtain rfl : j = 0 := by simpa using hj
    exact hB.cell 0)
set_option maxHeartbeats 400000 in
theorem digS (v : Nat) (w : World) (h : v < 10) : Calls Tryd.prog 42 #[.int .i64 v] w fun e w' => e = .returned (.string (itx v)) ∧ Below w.heap.size w w' := by
  have i1 : (v : Int) < 10 := by omega
  have e1 : IntKind.u8.wrap (48 + (v : Int)) = 48 + v := by rw [IntKind.wrap_u8]; omega
  have c1 := conv1 (UInt8.ofNat (48 + v)) (48 + v) (by simp; omega) w _ 0 (Blk.new w 5 _)
  go_enter Tryd.func42, Tryd.ntmps42
  go_wp2
  go_ret
  refine ⟨?_, al (rf w) _⟩
  rw [itx, dec_small h]
  simp
set_option maxRecDepth 10000 in
theorem digG (v q r : Nat) (w : World) (h : ¬ v < 10) (h2 : v < 1000) (hq : q = v / 10) (hr : r = v % 10) (ih : ∀ w, Calls Tryd.prog 42 #[.int .i64 q] w fun e w' => e = .returned (.string (itx q)) ∧ Below w.heap.size w w') :
    Calls Tryd.prog 42 #[.int .i64 v] w fun e w' => e = .returned (.string (itx v)) ∧ Below w.heap.size w w' := by
  have hqq : q < 1000 := by omega
  have n1 : ¬ 9223372036854775807 < (itx q).size + 1 := by
    have : (itx q).size = (Lib.decDigits q).length := rfl
    rw [dec_dd (by omega)] at this
    have h3 : (dd q).length ≤ 3 := by unfold dd; split; simp; split <;> simp
    omega
  have i1 : ¬ (v : Int) < 10 := by omega
  have t1 : (v : Int).tdiv 10 = (q : Int) := by rw [Int.tdiv_eq_ediv_of_nonneg (by omega)]; omega
  have t2 : (v : Int).tmod 10 = (r : Int) := by rw [Int.tmod_eq_emod_of_nonneg (by omega)]; omega
  have e1 : IntKind.u8.wrap (48 + (r : Int)) = 48 + r := by rw [IntKind.wrap_u8]; omega
  have wq : IntKind.i64.wrap (q : Int) = q := IntWalk.i64_in _ (by omega)
  have w1 : IntKind.i64.wrap (48 + (r : Int)) = 48 + r := IntWalk.i64_in _ (by omega)
  have hi : Hid (itx v = itx q ++ ⟨#[UInt8.ofNat (48 + r)]⟩) := by rw [hq, hr]; exact itx_dec v h
  generalize hsq : itx q = sq at hi ih n1
  clear hsq
  generalize hc : UInt8.ofNat (48 + r) = c at hi
  have hx : (48 + (r : Int)) = c.toNat := by rw [← hc]; simp; omega
  have HX := Lib.hid hx
  clear hx hc hq hr h
  have c1 : ∀ W : World, (convert 24 9 (.slice (some ⟨W.heap.size, 0, none⟩) 1 1)).run Tryd.prog (W.alloc (.cells #[.int .u8 (48 + r)] 5)) = .ok (.string ⟨#[c]⟩) (W.alloc (.cells #[.int .u8 (48 + r)] 5)) := fun W =>
    conv1 c (48 + r) HX.out W _ 0 (Blk.new W 5 _)
  have c2 : ∀ W : World, (convert 24 9 (.slice (some ⟨W.heap.size, 0, none⟩) 1 1)).run Tryd.prog (W.alloc (.cells #[.int .u8 (48 + r)] 5)).drew = .ok (.string ⟨#[c]⟩) (W.alloc (.cells #[.int .u8 (48 + r)] 5)).drew := fun W =>
    conv1 c (48 + r) HX.out W _ 0 (Blk.new W 5 _).drew
  have c3 : ∀ W : World, (convert 24 9 (.slice (some ⟨W.heap.size, 0, none⟩) 1 1)).run Tryd.prog (W.drew.alloc (.cells #[.int .u8 (48 + r)] 5)) = .ok (.string ⟨#[c]⟩) (W.drew.alloc (.cells #[.int .u8 (48 + r)] 5)) := fun W =>
    conv1 c (48 + r) HX.out W _ 0 (Blk.new W.drew 5 _)
  have c4 : ∀ W : World, (convert 24 9 (.slice (some ⟨W.heap.size, 0, none⟩) 1 1)).run Tryd.prog (W.drew.alloc (.cells #[.int .u8 (48 + r)] 5)).drew = .ok (.string ⟨#[c]⟩) (W.drew.alloc (.cells #[.int .u8 (48 + r)] 5)).drew := fun W =>
    conv1 c (48 + r) HX.out W _ 0 (Blk.new W.drew 5 _).drew
  go_enter Tryd.func42, Tryd.ntmps42
  go_wp2_with fail
  go_region_with (first
    | (go_at_call 42; refine (ih _).mono ?_; rintro e w2 ⟨rfl, hb2⟩
       try have cB := conv1 c (48 + r) HX.out w w2 0 (by first | exact (Blk.new w.drew _ _).nx hb2 | exact (Blk.new w _ _).nx hb2 | exact (Blk.new w.drew _ _).drew.nx hb2 | exact (Blk.new w _ _).drew.nx hb2))
    | fail)
  all_goals
    first
    | have BB : Below w.heap.size w w2 := nx (al (rf w) _).drew hb2
    | have BB : Below w.heap.size w w2 := nx (al (rf w).drew _) hb2
    | have BB : Below w.heap.size w w2 := nx (rf w).drew hb2
    have HBB := Lib.hid BB
    clear BB
    go_wp2
    go_ret
    refine ⟨(congrArg (fun s => Ending.returned (.string s)) hi.out).symm, ?_⟩
    first
    | exact HBB.out
    | exact al HBB.out _
theorem digC (v : Nat) (w : World) (h : v < 256) : Calls Tryd.prog 42 #[.int .i64 v] w fun e w' => e = .returned (.string (itx v)) ∧ Below w.heap.size w w' := by
  by_cases h1 : v < 10
  · exact digS v w h1
  · refine digG v (v / 10) (v % 10) w h1 (by omega) rfl rfl fun w => ?_
    by_cases h2 : v / 10 < 10
    · exact digS _ w h2
    · exact digG _ (v / 10 / 10) (v / 10 % 10) w h2 (by omega) rfl rfl fun w => digS _ w (by omega)
theorem itx_size {n : Nat} (h : n < 256) : (itx n).size ≤ 3 := by
  have e : (itx n).size = (Lib.decDigits n).length := rfl
  rw [e, dec_dd (by omega)]
  unfold dd; split
  · simp
  · split <;> simp
theorem digX (x : Int) (w : World) (h0 : 0 ≤ x) (h : x < 256) : Calls Tryd.prog 42 #[.int .i64 x] w fun e w' => ∃ s, e = .returned (.string s) ∧ Hid (s = itx x.toNat) ∧ s.size ≤ 3 ∧ Below w.heap.size w w' := by
  obtain ⟨n, rfl⟩ : ∃ n : Nat, x = n := ⟨x.toNat, by omega⟩
  exact (digC n w (by omega)).mono fun e w' ⟨h1, h2⟩ => ⟨_, h1, rfl, itx_size (by omega), h2⟩
set_option maxHeartbeats 800000 in
theorem rtextC (a : Nat) (w : World) (ha : a < 4294967296) :
    Calls Tryd.prog 20 #[.int .u32 a] w fun e w' => e = .returned (.string ⟨(textP a).toArray⟩) ∧ Below w.heap.size w w' := by
  have e1 := and255 (a / 65536) (by omega) (by omega)
  have e2 := and255 (a / 256) (by omega) (by omega)
  have e3 := and255 a (by omega) (by omega)
  have tok1 : True := trivial
  have tok2 : True := trivial
  have tok3 : True := trivial
  go_enter Tryd.func20, Tryd.ntmps20
  go_wp2_with (first
    | (go_at_call 42; have _t := tok1; refine (digX _ _ (by omega) (by omega)).mono ?_; rintro e w1 ⟨s1, rfl, hs1, hz1, hb1⟩; clear tok1 _t
       have n1 : ¬ 9223372036854775807 < s1.size + 1 := by omega)
    | (go_at_call 42; have _t := tok2; refine (digX _ _ (by omega) (by omega)).mono ?_; rintro e w2 ⟨s2, rfl, hs2, hz2, hb2⟩; clear tok2 _t
       have n2 : ¬ 9223372036854775807 < s1.size + 1 + s2.size := by omega
       have n3 : ¬ 9223372036854775807 < s1.size + 1 + s2.size + 1 := by omega)
    | (go_at_call 42; have _t := tok3; refine (digX _ _ (by omega) (by omega)).mono ?_; rintro e w3 ⟨s3, rfl, hs3, hz3, hb3⟩; clear tok3 _t
       have n4 : ¬ 9223372036854775807 < s1.size + 1 + s2.size + 1 + s3.size := by omega
       have n5 : ¬ 9223372036854775807 < s1.size + 1 + s2.size + 1 + s3.size + 1 := by omega)
    | (go_at_call 42; refine (digX _ _ (by omega) (by omega)).mono ?_; rintro e w4 ⟨s4, rfl, hs4, hz4, hb4⟩
       have n6 : ¬ 9223372036854775807 < s1.size + 1 + s2.size + 1 + s3.size + 1 + s4.size := by omega))
  go_ret
  refine ⟨?_, nx (nx (nx hb1 hb2) hb3) hb4⟩
  have q1 : ((a : Int) / 16777216).toNat = byt a 0 := by unfold byt; simp only [Nat.reducePow, Nat.reduceSub]; omega
  have q2 : ((a : Int) / 65536 % 256).toNat = byt a 1 := by unfold byt; simp only [Nat.reducePow, Nat.reduceSub]; omega
  have q3 : ((a : Int) / 256 % 256).toNat = byt a 2 := by unfold byt; simp only [Nat.reducePow, Nat.reduceSub]; omega
  have q4 : ((a : Int) % 256).toNat = byt a 3 := by unfold byt; simp only [Nat.reducePow, Nat.reduceSub]; omega
  have E : s1 ++ ⟨#[46]⟩ ++ s2 ++ ⟨#[46]⟩ ++ s3 ++ ⟨#[46]⟩ ++ s4 = ⟨(textP a).toArray⟩ := by
    rw [hs1.out, hs2.out, hs3.out, hs4.out, q1, q2, q3, q4]
    apply ByteArray.ext
    apply Array.ext'
    simp [itx, textP, ByteArray.data_append]
  exact congrArg (fun s => Ending.returned (.string s)) E
end Go.Proofs.YthjpdaflgphbbaaDoor
