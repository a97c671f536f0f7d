/-
  Names: the program's Unpack: at every place of every row of bytes it returns what the plain function says.
-/
import Derived.Test.YtpfkmmmlocmakaaDoorByt
import Derived.Test.YtpfkmmmlocmakaaDoorNmU
import Derived.Test.YtpfkmmmlocmakaaDoorShelf
import Derived.Laws.IdiomStrings
import Derived.Lib.IndexAny
import Derived.WalkMore
import Derived.Laws.BitsLemmas
set_option linter.unusedVariables false
namespace Go.Proofs.YtpfkmmmlocmakaaDoor
open Go.RowKit

theorem stS : SliceTy Tryd.prog 104 9 1 16 (.string ⟨#[]⟩) := ⟨Tryd.underlying104, by kernel_rfl, rfl, by omega⟩
def strs (l : List (List UInt8)) : List Value := l.map fun x => Value.string ⟨x.toArray⟩
theorem strs_app (l : List (List UInt8)) (x : List UInt8) : strs (l ++ [x]) = strs l ++ [.string ⟨x.toArray⟩] := by simp [strs]
theorem strs_len (l : List (List UInt8)) : (strs l).length = l.length := by simp [strs]
theorem failC (e : Int) (w : World) : Calls Tryd.prog 53 #[.int .i64 e] w fun x w' => x = .returned (.tuple #[.string ⟨#[]⟩, .int .i64 0, .int .i64 e]) ∧ w' = w := by
  go_enter Tryd.func53, Tryd.ntmps53
  go_wp2
  refine bodyPost_ret (results_tmp3 rfl _ _ _) rfl ?_
  exact ⟨rfl, rfl⟩
def NmR (R : List (List UInt8) × Int × Int) (w : World) (e : Ending) (w' : World) : Prop :=
  e = .returned (.tuple #[.string ⟨(jn R.1).toArray⟩, .int .i64 R.2.1, .int .i64 R.2.2]) ∧ Below w.heap.size w w'
theorem NmR.bad {R : List (List UInt8) × Int × Int} {x : Int} {w w' : World} {e : Ending} (hR : R = ([], 0, x)) (he : e = .returned (.tuple #[.string ⟨#[]⟩, .int .i64 0, .int .i64 x])) (h : Below w.heap.size w w') : NmR R w e w' := by
  subst hR; exact ⟨he, h⟩
theorem joinS (ls : List (List UInt8)) (v : Value) (base : Nat) (w : World) (h : w.ownsRow base 9 1 v ls.length (strs ls)) (hs : szL ls ≤ 300) :
    Calls Tryd.prog 55 #[v, .string ⟨#[46]⟩] w fun e w' => e = .returned (.string ⟨(jn ls).toArray⟩) ∧ Below w.heap.size w w' := by
  by_cases h0 : ls = []
  · subst h0
    obtain ⟨a, c, rfl⟩ := own_slice h
    exact (Tryd.strings_Join_none a c _ w).mono fun e w' ⟨h1, h2⟩ => ⟨h1, by subst h2; exact rf _⟩
  · have hn : 0 < ls.length := List.length_pos_iff.2 h0
    have hN : ls.length ≤ szL ls := by
      clear h hs h0 hn
      induction ls with
      | nil => simp
      | cons y r ih =>
        have h2 : szL (y :: r) = y.length + 1 + szL r := by simp [szL]
        rw [List.length_cons]; omega
    obtain ⟨g, cap, rfl, hg, hg2, hcap, hcm, cur, BG, hcs, hct⟩ := own_form h hn
    have hm : (ls.map fun x : List UInt8 => (⟨x.toArray⟩ : ByteArray)).map (·.data.toList) = ls := by rw [List.map_map]; exact (List.map_congr_left (fun x _ => rfl)).trans (List.map_id ls)
    have hl : (ls.map fun x : List UInt8 => (⟨x.toArray⟩ : ByteArray)).length = ls.length := List.length_map _
    have := Tryd.strings_Join g 0 cap (ls.map fun x => ⟨x.toArray⟩) ⟨#[46]⟩ w (fun j x hx => by
      rw [Nat.zero_add]
      have e0 := h.cells (g := g) rfl j (.string x)
      rw [Addr.add_mid, Nat.zero_add] at e0
      refine e0 ?_
      unfold strs
      rw [List.getElem?_map] at hx ⊢
      cases hq : ls[j]? with
      | none => rw [hq] at hx; cases hx
      | some y => rw [hq] at hx; simp only [Option.map_some, Option.some.injEq] at hx ⊢; rw [hx]) hg2 (by rw [hl]; omega) (by rw [hl]; omega) (by
        rw [hm]; have := jn_le ls; unfold jn at this; show (Lib.join ls [46]).length ≤ _; omega)
    rw [hl, hm] at this
    exact this
theorem len_szL (ls : List (List UInt8)) : ls.length ≤ szL ls := by
  induction ls with
  | nil => simp
  | cons y r ih =>
    have h2 : szL (y :: r) = y.length + 1 + szL r := by simp [szL]
    rw [List.length_cons]; omega
theorem wraps_62 (n : Int) (h₀ : 0 ≤ n) (h₁ : n < 2 ^ 62) : IntKind.i64.wrap n = n := by rw [IntKind.wrap_i64]; omega
theorem bytesOf_toInts (x : List UInt8) : Lib.bytesOf (x.map fun c => (c.toNat : Int)) = x := by
  unfold Lib.bytesOf
  rw [List.map_map]
  exact (List.map_congr_left (fun c _ => by simp)).trans (List.map_id x)
theorem idxC (g o c n : Nat) (x : List UInt8) (w : World) (h : Bytes w (some ⟨g, o, none⟩) x) (hn : Hid (x.length = n)) :
    Calls Tryd.prog 54 #[.slice (some ⟨g, o, none⟩) n c, .int .u8 46] w fun e w' => e = .returned (.int .i64 (Lib.indexByte x 46)) ∧ w' = w := by
  have := Tryd.bytes_IndexByte g o n c (x.map fun c => (c.toNat : Int)) 46 w (by rw [List.length_map]; exact hn.out) (fun i hi => by
    have hi' : i < x.length := by rw [hn.out]; exact hi
    obtain ⟨ad, hA, _, hc⟩ := h.at_ hi'
    injection hA with hA
    subst hA
    rw [Addr.add_mid] at hc
    rw [hc]
    simp [List.getD, hi'])
  rw [bytesOf_toInts] at this
  exact this
theorem idxYes (g o c n : Nat) (x : List UInt8) (w : World) (h : Bytes w (some ⟨g, o, none⟩) x) (hn : Hid (x.length = n)) (h46 : 46 ∈ x) :
    Calls Tryd.prog 54 #[.slice (some ⟨g, o, none⟩) n c, .int .u8 46] w fun e w' => ∃ r : Int, e = .returned (.int .i64 r) ∧ 0 ≤ r ∧ w' = w :=
  (idxC g o c n x w h hn).mono fun e w' ⟨h1, h2⟩ => ⟨_, h1, by
    have := Lib.contains_iff_indexByte x 46
    rw [List.contains_iff_mem.2 h46] at this
    exact of_decide_eq_true this.symm, h2⟩
theorem idxNo (g o c n : Nat) (x : List UInt8) (w : World) (h : Bytes w (some ⟨g, o, none⟩) x) (hn : Hid (x.length = n)) (h46 : 46 ∉ x) :
    Calls Tryd.prog 54 #[.slice (some ⟨g, o, none⟩) n c, .int .u8 46] w fun e w' => ∃ r : Int, e = .returned (.int .i64 r) ∧ r < 0 ∧ w' = w :=
  (idxC g o c n x w h hn).mono fun e w' ⟨h1, h2⟩ => ⟨_, h1, by
    have := Lib.contains_iff_indexByte x 46
    have e1 : x.contains 46 = false := by rw [← Bool.not_eq_true]; intro h; exact h46 (List.contains_iff_mem.1 h)
    rw [e1] at this
    have := of_decide_eq_false this.symm
    omega, h2⟩
theorem sub_bytes {w : World} {g o : Nat} {b : List UInt8} (h : Bytes w (some ⟨g, o, none⟩) b) (k n : Nat) (hk : k + n ≤ b.length) : Bytes w (some ⟨g, o + k, none⟩) ((b.drop k).take n) := by
  have hl : ((b.drop k).take n).length = n := by rw [List.length_take, List.length_drop]; omega
  refine ⟨by rw [byteCells_len, Nat.mul_one], fun hn => ?_⟩
  obtain ⟨ad, hA, hb, hc⟩ := h.2 (by omega)
  injection hA with hA
  subst hA
  refine ⟨_, rfl, hb, fun j u hu => ?_⟩
  have hj : j < ((b.drop k).take n).length := by rw [← byteCells_len]; exact (List.getElem?_eq_some_iff.1 hu).1
  rw [byteCells_at _ j hj] at hu
  rw [Addr.add_mid, Nat.add_assoc]
  have h1 := hc (k + j) u (by
    rw [byteCells_at _ _ (by omega)]
    rw [← hu]
    simp)
  rw [Addr.add_mid] at h1
  exact h1
set_option maxHeartbeats 1600000 in
set_option maxRecDepth 20000 in
theorem unpC (g o : Nat) (b : List UInt8) (c i0 : Nat) (w : World) (hb : Bytes w (some ⟨g, o, none⟩) b) (hl : b.length ≤ 1000000) (hc : b.length ≤ c) (hi0 : i0 ≤ 2000000) (R : List (List UInt8) × Int × Int) (hR : Hid (unp b i0 i0 (-1) [] = R)) :
    Calls Tryd.prog 30 #[.slice (some ⟨g, o, none⟩) b.length c, .int .i64 i0] w (NmR R w) := by
  by_cases hin : i0 < b.length
  · have j0 : decide ((i0 : Int) < 0) = false := by rw [decide_eq_false_iff_not]; omega
    have j1 : decide (b.length ≤ i0) = false := by rw [decide_eq_false_iff_not]; omega
    go_enter Tryd.func30, Tryd.ntmps30
    go_wp2
    go_step3
    go_wp2
    go_step3
    go_wp2
    go_loopw [1, 8, 9, 10, 11] (fun i vl sz bg bh wr => ∃ (i' bg' : Nat) (bh' sz' : Int) (ls : List (List UInt8)), i = .int .i64 i' ∧ sz = .int .i64 sz' ∧ bg = .int .i64 bg' ∧ bh = .int .i64 bh' ∧ wr.ownsRow w.heap.size 9 1 vl ls.length (strs ls) ∧
        Hid (unp b i' bg' bh' ls = R) ∧ Below w.heap.size w wr ∧ Hid (sz' + 1 = szL ls) ∧ Hid (szL ls ≤ 254) ∧ i' ≤ 2000000 ∧ bg' ≤ 2000000 ∧ -1 ≤ bh' ∧ bh' ≤ 3000000) (fun i _ _ bg _ _ => (intOf bg).toNat * (b.length + 1) + (b.length - (intOf i).toNat))
    case atStart => exact ⟨i0, i0, -1, -1, [], rfl, rfl, rfl, rfl, World.ownsRow_nil _ _ _ _, hR, rf w, rfl, show szL [] ≤ 254 by decide, hi0, hi0, by omega, by omega⟩
    case round =>
      obtain ⟨i, bg, bh, sz, ls, rfl, rfl, rfl, rfl, own, HU, bel, HZ, HL, hi, hbg, hbh, hbh2⟩ := hrel
      by_cases hlt : i < b.length
      · obtain ⟨ad, hA, _, hc1⟩ := (hb.nx bel).at_ hlt
        injection hA with hA
        subst hA
        rw [Addr.add_mid] at hc1
        have k0 : (0 : Int) ≤ i := by omega
        have k1 : (i : Int) < b.length := by omega
        have b1 := b[i].toNat_lt
        generalize hx : b[i].toNat = n at hc1 b1
        have HN := Lib.hid hx; clear hx
        have bw := Lib.hid (hb.nx bel)
        by_cases hn0 : n = 0
        · have z0 : ((n : Int) == 0) = true := by rw [beq_iff_eq]; omega
          by_cases hneg : bh < 0
          · go_wp2_with fail
            refine (joinS ls _ _ _ own (by have := HL.out; omega)).mono ?_
            rintro e w' ⟨rfl, bel2⟩
            go_wp2
            rw [Exit.noGoto_ret]
            refine bodyPost_ret (results_tmp3 rfl _ _ _) rfl ?_
            have hr := HU.out.symm.trans (unp_end b i bg bh ls hlt (by rw [HN.out]; exact hn0))
            rw [if_pos (by omega)] at hr
            rw [hr]
            exact ⟨rfl, nx bel bel2⟩
          · go_wp2_with fail
            refine (joinS ls _ _ _ own (by have := HL.out; omega)).mono ?_
            rintro e w' ⟨rfl, bel2⟩
            go_wp2
            rw [Exit.noGoto_ret]
            refine bodyPost_ret (results_tmp3 rfl _ _ _) rfl ?_
            have hr := HU.out.symm.trans (unp_end b i bg bh ls hlt (by rw [HN.out]; exact hn0))
            rw [if_neg (by omega)] at hr
            rw [hr]
            exact ⟨rfl, nx bel bel2⟩
        · have z0 : ((n : Int) == 0) = false := by rw [beq_eq_false_iff_ne]; omega
          by_cases h63 : n ≤ 63
          · have m0 : (n : Int) ≤ 63 := by omega
            by_cases hsh : b.length < i + 1 + n
            · have m1 : (b.length : Int) < (i : Int) + 1 + n := by omega
              go_wp2_with fail
              refine (failC 2 _).mono ?_
              rintro e w' ⟨rfl, rfl⟩
              go_wp2
              rw [Exit.noGoto_ret]
              refine bodyPost_ret (results_tmp3 rfl _ _ _) rfl ?_
              exact NmR.bad (HU.out.symm.trans (unp_short b i bg bh ls hlt (by rw [HN.out]; exact hn0) (by rw [HN.out]; exact h63) (by rw [HN.out]; exact hsh))) rfl bel
            · have m1 : ¬ (b.length : Int) < (i : Int) + 1 + n := by omega
              have m2 : (i : Int) + 1 ≤ (i : Int) + 1 + n := by omega
              have m3 : (i : Int) + 1 + n ≤ c := by omega
              have m4 : ¬ (c : Int) = (i : Int) + 1 := by omega
              have w1 : -1 ≤ sz := by have := HZ.out; omega
              have w2 : sz ≤ 253 := by have h1 := HZ.out; have h2 := HL.out; omega
              have hbx := sub_bytes bw.out (i + 1) n (by omega)
              have hX2 : ((b.drop (i + 1)).take n).length = n := by rw [List.length_take, List.length_drop]; omega
              have hcv := run_convert_bytes_back (P := Tryd.prog) wr 34 9 5 ⟨g, o + (i + 1), none⟩ (c - (i + 1)) ((b.drop (i + 1)).take n) Tryd.underlying34 Tryd.underlying5 Tryd.underlying9 (fun j hj => by
                obtain ⟨ad, hA, _, h3⟩ := hbx.at_ hj
                injection hA with hA
                subst hA
                exact h3)
              rw [hX2] at hcv
              have HX2 := Lib.hid hX2; clear hX2
              generalize hXX : (b.drop (i + 1)).take n = X at hbx hcv HX2
              have HXX := Lib.hid hXX; clear hXX
              have HCV := Lib.hid hcv; clear hcv
              have HBX := Lib.hid hbx; clear hbx
              by_cases h46 : 46 ∈ X
              · go_wp2_with fail
                refine (idxYes g (o + (i + 1)) _ n X _ HBX.out HX2 h46).mono ?_
                rintro e w' ⟨r, rfl, hr, rfl⟩
                go_wp2_with fail
                refine (failC 9 _).mono ?_
                rintro e w' ⟨rfl, rfl⟩
                go_wp2
                rw [Exit.noGoto_ret]
                refine bodyPost_ret (results_tmp3 rfl _ _ _) rfl ?_
                exact NmR.bad (HU.out.symm.trans (unp_name b i bg bh ls hlt (by rw [HN.out]; exact hn0) (by rw [HN.out]; exact h63) (by rw [HN.out]; exact hsh) (by rw [HN.out, HXX.out]; exact .inl h46))) rfl bel
              · by_cases hlong : 254 < szL ls + n + 1
                · have w3 : 253 < sz + (1 + (n : Int)) := by have h1 := HZ.out; omega
                  go_wp2_with fail
                  refine (idxNo g (o + (i + 1)) _ n X _ HBX.out HX2 h46).mono ?_
                  rintro e w' ⟨r, rfl, hr, rfl⟩
                  go_wp2_with fail
                  refine (failC 9 _).mono ?_
                  rintro e w' ⟨rfl, rfl⟩
                  go_wp2
                  rw [Exit.noGoto_ret]
                  refine bodyPost_ret (results_tmp3 rfl _ _ _) rfl ?_
                  exact NmR.bad (HU.out.symm.trans (unp_name b i bg bh ls hlt (by rw [HN.out]; exact hn0) (by rw [HN.out]; exact h63) (by rw [HN.out]; exact hsh) (by rw [HN.out]; exact .inr hlong))) rfl bel
                · have w3 : ¬ 253 < sz + (1 + (n : Int)) := by have h1 := HZ.out; omega
                  have hnext := HU.out.symm.trans (unp_label b i bg bh ls hlt (by rw [HN.out]; exact hn0) (by rw [HN.out]; exact h63) (by rw [HN.out]; exact hsh) (by rw [HN.out, HXX.out]; rintro (h | h); exact h46 h; exact hlong h))
                  rw [HN.out, HXX.out] at hnext
                  have HNX := Lib.hid hnext; clear hnext
                  go_wp2_with fail
                  refine (idxNo g (o + (i + 1)) _ n X _ HBX.out HX2 h46).mono ?_
                  rintro e w' ⟨r, rfl, hr, rfl⟩
                  have hcv := HCV.out
                  have hls : ls.length ≤ 254 := by have := len_szL ls; have := HL.out; omega
                  go_wp2_with (at_builtin
                               refine app_any stS rfl (.tmp 94) (.tmp 97) rfl w.heap.size _ _ _ rfl (own.alloc _) _ 1 _ [.string ⟨X.toArray⟩] rfl (Reads.one (blk_at _ _ _ ?b4)) (by simp [Value.oneCell']) (by omega) (by omega) ?b3 ?_
                               case b4 => simp
                               case b3 => have := bel.size; simp; omega
                               intro v1 w1 own1 gr1 at1 bel1)
                  have OWN := Lib.hid own1
                  have BEL : Hid (Below w.heap.size w w1) := (al bel _).trans bel1
                  clear own1 bel1 gr1 at1 hcv own bel
                  go_wp2
                  go_roundw
                  case rel => exact ⟨i + 1 + n, bg, bh, sz + (1 + n), ls ++ [X], congrArg (Value.int .i64) (by omega), rfl, rfl, rfl, by rw [List.length_append, strs_app]; exact OWN.out, HNX.out.symm, BEL.out, by show _ = _; rw [szL_app, HX2.out]; have := HZ.out; omega, by show _ ≤ _; rw [szL_app, HX2.out]; omega, by omega, by omega, by omega, by omega⟩
                  case measure => simp [intOf]; omega
          · have m0 : ¬ (n : Int) ≤ 63 := by omega
            by_cases h192 : 192 ≤ n
            · have q0 : (192 : Int) ≤ n := by omega
              by_cases hcut : b.length ≤ i + 1
              · have q1 : (b.length : Int) ≤ (i : Int) + 1 := by omega
                go_wp2_with fail
                refine (failC 2 _).mono ?_
                rintro e w' ⟨rfl, rfl⟩
                go_wp2
                rw [Exit.noGoto_ret]
                refine bodyPost_ret (results_tmp3 rfl _ _ _) rfl ?_
                exact NmR.bad (HU.out.symm.trans (unp_cut b i bg bh ls hlt (by rw [HN.out]; exact h192) hcut)) rfl bel
              · have q1 : ¬ (b.length : Int) ≤ (i : Int) + 1 := by omega
                obtain ⟨ad, hA, _, hc2⟩ := bw.out.at_ (show i + 1 < b.length by omega)
                injection hA with hA
                subst hA
                rw [Addr.add_mid] at hc2
                have b2 := b[i + 1].toNat_lt
                generalize hx2 : b[i + 1].toNat = n2 at hc2 b2
                have HN2 := Lib.hid hx2; clear hx2
                obtain ⟨p, hp⟩ : ∃ p : Nat, (n - 192) * 256 + n2 = p := ⟨_, rfl⟩
                have hor : bits .or .i64 (((n : Int) - 192) * 256) (n2 : Int) = (p : Int) := by
                  rw [bits_join .i64 62 (by decide) wraps_62 8 (((n : Int) - 192) * 256) (n2 : Int) (by omega) (by omega) (by omega) (by omega) (by omega) (by omega)]
                  omega
                have hp2 : p ≤ 16383 := by omega
                have HP := Lib.hid hp; clear hp
                by_cases hloop : bg ≤ p
                · have q2 : (bg : Int) ≤ p := by omega
                  by_cases hneg : bh < 0
                  · go_wp2_with fail
                    refine (failC 10 _).mono ?_
                    rintro e w' ⟨rfl, rfl⟩
                    go_wp2
                    rw [Exit.noGoto_ret]
                    refine bodyPost_ret (results_tmp3 rfl _ _ _) rfl ?_
                    exact NmR.bad (HU.out.symm.trans (unp_loop b i bg bh ls hlt (by rw [HN.out]; exact h192) (by omega) (by rw [HN.out, HN2.out, HP.out]; exact hloop))) rfl bel
                  · go_wp2_with fail
                    refine (failC 10 _).mono ?_
                    rintro e w' ⟨rfl, rfl⟩
                    go_wp2
                    rw [Exit.noGoto_ret]
                    refine bodyPost_ret (results_tmp3 rfl _ _ _) rfl ?_
                    exact NmR.bad (HU.out.symm.trans (unp_loop b i bg bh ls hlt (by rw [HN.out]; exact h192) (by omega) (by rw [HN.out, HN2.out, HP.out]; exact hloop))) rfl bel
                · have q2 : ¬ (bg : Int) ≤ p := by omega
                  have hnext := HU.out.symm.trans (unp_lead b i bg bh ls hlt (by rw [HN.out]; exact h192) (by omega) (by rw [HN.out, HN2.out, HP.out]; omega))
                  rw [HN.out, HN2.out, HP.out] at hnext
                  have HNX := Lib.hid hnext; clear hnext
                  have hmul := Nat.mul_le_mul_right (b.length + 1) (show p + 1 ≤ bg by omega)
                  rw [Nat.succ_mul] at hmul
                  by_cases hneg : bh < 0
                  · have HNG := Lib.hid hneg
                    go_wp2
                    go_roundw
                    case rel => exact ⟨p, p, i + 2, sz, ls, rfl, rfl, rfl, rfl, own, by have := HNX.out.symm; rw [if_pos HNG.out] at this; exact this, bel, HZ, HL, by omega, by omega, by omega, by omega⟩
                    case measure => simp [intOf]; omega
                  · have HNG := Lib.hid hneg
                    go_wp2
                    go_roundw
                    case rel => exact ⟨p, p, bh, sz, ls, rfl, rfl, rfl, rfl, own, by have := HNX.out.symm; rw [if_neg HNG.out] at this; exact this, bel, HZ, HL, by omega, by omega, by omega, by omega⟩
                    case measure => simp [intOf]; omega
            · have q0 : ¬ (192 : Int) ≤ n := by omega
              go_wp2_with fail
              refine (failC 3 _).mono ?_
              rintro e w' ⟨rfl, rfl⟩
              go_wp2
              rw [Exit.noGoto_ret]
              refine bodyPost_ret (results_tmp3 rfl _ _ _) rfl ?_
              exact NmR.bad (HU.out.symm.trans (unp_form b i bg bh ls hlt (by rw [HN.out]; omega) (by rw [HN.out]; omega))) rfl bel
      · have k1 : (b.length : Int) ≤ i := by omega
        go_wp2_with fail
        refine (failC 2 _).mono ?_
        rintro e w' ⟨rfl, rfl⟩
        go_wp2
        rw [Exit.noGoto_ret]
        refine bodyPost_ret (results_tmp3 rfl _ _ _) rfl ?_
        exact NmR.bad (HU.out.symm.trans (unp_past b i bg bh ls (by omega))) rfl bel
  · have hR0 := hR.out.symm.trans (unp_past b i0 i0 (-1) [] (by omega))
    have j0 : ¬ (i0 : Int) < 0 := by omega
    have j1 : (b.length : Int) ≤ i0 := by omega
    clear hin
    have HR0 := Lib.hid hR0; clear hR0
    go_enter Tryd.func30, Tryd.ntmps30
    go_wp2_with fail
    go_step3
    go_wp2_with fail
    refine (failC 2 _).mono ?_
    rintro e w' ⟨rfl, rfl⟩
    go_wp2
    rw [Exit.noGoto_ret]
    refine bodyPost_ret (results_tmp3 rfl _ _ _) rfl ?_
    exact NmR.bad HR0.out rfl (rf _)
end Go.Proofs.YtpfkmmmlocmakaaDoor
