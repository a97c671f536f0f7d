/-
  A datagram's bytes: the reference's Encode.
-/
import Derived.Test.YtbhplleaokncpaaUdE2
import Derived.Test.YtbhplleaokncpaaUdR
set_option linter.unusedVariables false
namespace Go.Proofs.Ytbhplleaokncpaa
open Go.RowKit

theorem udpB_cells (frp top : Int) (l : List UInt8) (s : Nat) (h1 : 0 ≤ frp) (h2 : frp ≤ 65535) (h3 : 0 ≤ top) (h4 : top ≤ 65535) (hl : l.length ≤ 65507) (hs : s ≤ 65535) :
    Lib.byteCells (udpB frp top l s) = .int .u8 (frp / 256) :: .int .u8 (frp % 256) :: .int .u8 (top / 256) :: .int .u8 (top % 256) :: .int .u8 ((8 + l.length : Int) / 256) :: .int .u8 ((8 + l.length : Int) % 256) :: .int .u8 ((s : Int) / 256) :: .int .u8 ((s : Int) % 256) :: Lib.byteCells l := by
  have e : (8 + l.length : Int).toNat = 8 + l.length := by omega
  have es : ((s : Nat) : Int).toNat = s := Int.toNat_natCast s
  have a3 := beB_two (8 + l.length : Int) (by omega) (by omega)
  have a4 := beB_two (s : Int) (by omega) (by omega)
  rw [e] at a3; rw [es] at a4
  unfold udpB
  rw [byteCells_app, byteCells_app, byteCells_app, byteCells_app, beB_two frp h1 h2, beB_two top h3 h4, a3, a4]
  rfl
theorem udpB_set (frp top : Int) (l : List UInt8) (s : Nat) (h1 : 0 ≤ frp) (h2 : frp ≤ 65535) (h3 : 0 ≤ top) (h4 : top ≤ 65535) (hl : l.length ≤ 65507) (hs : s ≤ 65535) :
    ((Lib.byteCells (udpB frp top l 0)).set 6 (.int .u8 ((s : Int) / 256))).set 7 (.int .u8 ((s : Int) % 256)) = Lib.byteCells (udpB frp top l s) := by
  rw [udpB_cells frp top l 0 h1 h2 h3 h4 hl (by omega), udpB_cells frp top l s h1 h2 h3 h4 hl hs]
  rfl
theorem stored2 {w w0 : World} {base b0 g n cap : Nat} {e : TypeId} {xs : List Value} (h : w.ownsRow base e 1 (.slice (some ⟨g, 0, none⟩) n cap) n xs) (hB : Below b0 w0 w) (hg : b0 ≤ g) (hb : b0 ≤ w.heap.size) (i j : Nat) (x y : Value) :
    ((w.setCell ⟨g, i, none⟩ x).setCell ⟨g, j, none⟩ y).ownsRow base e 1 (.slice (some ⟨g, 0, none⟩) n cap) n ((xs.set i x).set j y) ∧ Below b0 w0 ((w.setCell ⟨g, i, none⟩ x).setCell ⟨g, j, none⟩ y) := by
  obtain ⟨o1, g1⟩ := h.stored i x
  obtain ⟨o2, g2⟩ := o1.stored j y
  have k1 : Below b0 w (w.setCell ⟨g, i, none⟩ x) := (Below.refl _ _).grown g1 hb (fun k hk => by cases hk; exact hg)
  have k2 : Below b0 (w.setCell ⟨g, i, none⟩ x) ((w.setCell ⟨g, i, none⟩ x).setCell ⟨g, j, none⟩ y) := (Below.refl _ _).grown g2 (by have := k1.size; omega) (fun k hk => by cases hk; exact hg)
  exact ⟨o2, (hB.trans k1).trans k2⟩
set_option maxHeartbeats 800000 in
theorem rue_arg (d : Dg) (w : World) (h : badArg d) :
    Calls Try.prog 22 #[.agg d.cs.toArray] w fun e w' => e = .returned (.tuple #[.slice none 0 0, .int .i64 1]) ∧ Below w.heap.size w w' := by
  have D0 := Blk.new w 37 d.cs.toArray
  have c1 : (w.alloc (.cells d.cs.toArray 37)).cell? ⟨w.heap.size, 1, none⟩ = some (.int .i64 d.frp) := D0.cell 1
  have c3 : (w.alloc (.cells d.cs.toArray 37)).cell? ⟨w.heap.size, 3, none⟩ = some (.int .i64 d.top) := D0.cell 3
  have bw := Lib.hid (al (rf w) (.cells d.cs.toArray 37))
  clear D0
  have hc : d.frp < 0 ∨ (0 ≤ d.frp ∧ 65535 < d.frp) ∨ (0 ≤ d.frp ∧ d.frp ≤ 65535 ∧ d.top < 0) ∨ (0 ≤ d.frp ∧ d.frp ≤ 65535 ∧ 0 ≤ d.top ∧ 65535 < d.top) := by unfold badArg at h; omega
  clear h
  rcases hc with h | ⟨h1, h⟩ | ⟨h1, h2, h⟩ | ⟨h1, h2, h3, h⟩
  all_goals
    go_enter Try.func22, Try.ntmps22
    go_wp2
    go_ret2
    exact ⟨rfl, bw.out⟩
set_option maxHeartbeats 800000 in
theorem rue_long (d : Dg) (A : Option Addr) (l : List UInt8) (c : Nat) (w : World) (hda : d.data = .slice A l.length c) (h : ¬ badArg d) (hl : 65507 < l.length) (hl2 : l.length ≤ 1099511627776) :
    Calls Try.prog 22 #[.agg d.cs.toArray] w fun e w' => e = .returned (.tuple #[.slice none 0 0, .int .i64 5]) ∧ Below w.heap.size w w' := by
  have D0 := Blk.new w 37 d.cs.toArray
  have c1 : (w.alloc (.cells d.cs.toArray 37)).cell? ⟨w.heap.size, 1, none⟩ = some (.int .i64 d.frp) := D0.cell 1
  have c3 : (w.alloc (.cells d.cs.toArray 37)).cell? ⟨w.heap.size, 3, none⟩ = some (.int .i64 d.top) := D0.cell 3
  have c4 : (w.alloc (.cells d.cs.toArray 37)).cell? ⟨w.heap.size, 4, none⟩ = some (.slice A l.length c) := (D0.cell 4).trans (by show some d.data = _; rw [hda])
  have bw := Lib.hid (al (rf w) (.cells d.cs.toArray 37))
  have hli : (65507 : Int) < l.length := by omega
  have h1 : 0 ≤ d.frp := by unfold badArg at h; omega
  have h2 : d.frp ≤ 65535 := by unfold badArg at h; omega
  have h3 : 0 ≤ d.top := by unfold badArg at h; omega
  have h4 : d.top ≤ 65535 := by unfold badArg at h; omega
  clear D0 hda h hl hl2
  go_enter Try.func22, Try.ntmps22
  go_wp2
  go_ret2
  exact ⟨rfl, bw.out⟩
set_option maxHeartbeats 3200000 in
theorem rue_ok (d : Dg) (A : Option Addr) (l : List UInt8) (c : Nat) (w : World) (hda : d.data = .slice A l.length c) (hb : Bytes w A l) (hok : d.ok) (h : ¬ badArg d) (hl : l.length ≤ 65507) :
    Calls Try.prog 22 #[.agg d.cs.toArray] w fun e w' => ∃ v, e = .returned (.tuple #[v, .int .i64 0]) ∧ IsRow w w' (udpB d.frp d.top l (encS d.fr d.frp d.to_ d.top l)) v := by
  have D0 := Blk.new w 37 d.cs.toArray
  have c1 : (w.alloc (.cells d.cs.toArray 37)).cell? ⟨w.heap.size, 1, none⟩ = some (.int .i64 d.frp) := D0.cell 1
  have c3 : (w.alloc (.cells d.cs.toArray 37)).cell? ⟨w.heap.size, 3, none⟩ = some (.int .i64 d.top) := D0.cell 3
  have c4 : (w.alloc (.cells d.cs.toArray 37)).cell? ⟨w.heap.size, 4, none⟩ = some (.slice A l.length c) := (D0.cell 4).trans (by show some d.data = _; rw [hda])
  have bw := Lib.hid (al (rf w) (.cells d.cs.toArray 37))
  have hli : (l.length : Int) ≤ 65507 := by omega
  have h1 : 0 ≤ d.frp := by unfold badArg at h; omega
  have h2 : d.frp ≤ 65535 := by unfold badArg at h; omega
  have h3 : 0 ≤ d.top := by unfold badArg at h; omega
  have h4 : d.top ≤ 65535 := by unfold badArg at h; omega
  have HDA := Lib.hid hda
  have HL := Lib.hid hl
  have HOK := Lib.hid hok
  have HDB := Lib.hid D0
  have HB := Lib.hid (hb.nx bw.out)
  clear D0 hda h hl hok hb
  go_enter Try.func22, Try.ntmps22
  go_wp2
  clear c1 c3 c4
  change Code.wp _ _ _ _ (w.alloc (.cells d.cs.toArray 37))
  have hWs : w.heap.size < (w.alloc (.cells d.cs.toArray 37)).heap.size := by simp
  generalize w.alloc (.cells d.cs.toArray 37) = W at HDB HB bw hWs ⊢
  have k1 : W.cell? ⟨w.heap.size, 1, none⟩ = some (.int .i64 d.frp) := HDB.out.cell 1
  have k3 : W.cell? ⟨w.heap.size, 3, none⟩ = some (.int .i64 d.top) := HDB.out.cell 3
  have KK : Hid (∀ w', Below W.heap.size W w' → w'.cell? ⟨w.heap.size, 1, none⟩ = some (.int .i64 d.frp) ∧ w'.cell? ⟨w.heap.size, 3, none⟩ = some (.int .i64 d.top)) := fun w' hb => ⟨(HDB.out.nx hb).cell 1, (HDB.out.nx hb).cell 3⟩
  have tok1 : True := trivial
  go_region_held3 (fun w' => w'.cell? ⟨w.heap.size, 1, none⟩ = some (.int .i64 d.frp) ∧ w'.cell? ⟨w.heap.size, 3, none⟩ = some (.int .i64 d.top)) (first | exact KK.out _ (rf _).drew | exact KK.out _ (nx (rf _).drew b2) | exact KK.out _ (nx (nx (rf _).drew b2) b3) | exact KK.out _ ((nx (nx (rf _).drew b2) b3).trans bel4))
    (first
      | (go_at_call 48; have _t := tok1; refine (rtwoR _ _ (by assumption) (by assumption)).mono ?_; rintro e w2 ⟨rfl, o2, b2⟩; clear tok1 _t)
      | (go_at_call 48; refine (rtwoR _ _ (by assumption) (by assumption)).mono ?_; rintro e w3 ⟨rfl, o3, b3⟩)
      | (refine step_app stB rfl (.tmp 30) (.tmp 33) rfl W.heap.size _ 2 _ rfl (own_nx o2 b3) _ 2 2 (Lib.byteCells (beB d.top.toNat 2)) rfl ((own_bytes o3).2) (one_u8 _) (by omega) (by omega) (Nat.le_trans b2.size b3.size) ?_; intro v4 w4 own4 gr4 at4 bel4))
  have B4 : Below W.heap.size W w4 := (nx (nx (rf W).drew b2) b3).trans bel4
  have HDB4 := Lib.hid (HDB.out.nx B4)
  have HB4 := Lib.hid (HB.out.nx B4)
  have BW4 := Lib.hid B4
  have z4 : W.heap.size ≤ w4.heap.size := B4.size
  have C4 : w4.cell? ⟨w.heap.size, 4, none⟩ = some (.slice A l.length c) := (HDB4.out.cell 4).trans (by show some d.data = _; rw [HDA.out])
  have O4 := Lib.hid own4
  obtain ⟨A4, n4, rfl⟩ := own_slice own4
  rename_i hHeld
  clear hHeld gr4 at4 bel4 own4 b2 b3 o2 o3 B4 k1 k3 KK
  go_wp2_with fail
  refine (rtwoR _ _ (by omega) (by omega)).mono ?_
  rintro e w5 ⟨rfl, o5, b5⟩
  have z5 := b5.size
  have O5 := Lib.hid (own_nx O4.out b5)
  have R5 := Lib.hid (own_bytes o5).2
  have B5 := Lib.hid (nx BW4.out b5)
  clear o5 b5 O4 C4
  have KC : Hid (∀ w', Below W.heap.size W w' → w'.cell? ⟨w.heap.size, 4, none⟩ = some (.slice A l.length c)) := fun w' hb => ((HDB.out.nx hb).cell 4).trans (by show some d.data = _; rw [HDA.out])
  have e00 : Lib.byteCells (beB 0 2) = [.int .u8 0, .int .u8 0] := beB_two 0 (by decide) (by decide)
  have hle : (8 + (l.length : Int)).toNat = 8 + l.length := by omega
  rw [hle] at R5
  go_wp2_with (first
    | (at_builtin; refine app_any stB rfl (.tmp 35) (.tmp 40) rfl W.heap.size _ 4 _ rfl O5.out _ 2 2 (Lib.byteCells (beB _ 2)) rfl R5.out (one_u8 _) (by omega) (by omega) (by omega) ?_; intro v6 w6 own6 gr6 at6 bel6; obtain ⟨A6, n6, rfl⟩ := own_slice own6; clear gr6 at6)
    | (at_builtin; refine app_any stB rfl (.tmp 41) (.tmp 42) rfl W.heap.size _ 6 _ rfl (own6.alloc _) _ 2 2 [.int .u8 0, .int .u8 0] rfl (Reads.blk (blk_at _ _ _ rfl) rfl rfl) (by simp [Value.oneCell']) (by omega) (by omega) (by have := bel6.size; simp; omega) ?_; intro v7 w7 own7 gr7 at7 bel7; clear gr7 at7; obtain ⟨A7, n7, rfl⟩ := own_slice own7; have z6 := bel6.size; have B7 : Below W.heap.size W w7 := (B5.out.trans bel6).trans (((rf w6).mono (by omega)).trans ((al (rf w6) _).mono (by omega)) |>.trans bel7); have z7 : W.heap.size ≤ w7.heap.size := B7.size; have C7 := KC.out w7 B7; have HB7 := Lib.hid (HB.out.nx B7))
    | (at_builtin; refine app_any stB rfl (.tmp 44) (.tmp 46) rfl W.heap.size _ 8 _ rfl own7 _ l.length c (Lib.byteCells l) rfl HB7.out (one_u8 _) (by omega) (by omega) (by omega) ?_; intro v8 w8 own8 gr8 at8 bel8; clear gr8 at8; have B8 : Below W.heap.size W w8 := B7.trans bel8; have z8 : W.heap.size ≤ w8.heap.size := B8.size; have HDB8 := Lib.hid (HDB.out.nx B8); have k0 : w8.cell? ⟨w.heap.size, 0, none⟩ = some (.int .u32 d.fr) := HDB8.out.cell 0; have k2 : w8.cell? ⟨w.heap.size, 2, none⟩ = some (.int .u32 d.to_) := HDB8.out.cell 2; have O8 := Lib.hid own8; have BW8 := Lib.hid (nx bw.out B8); clear own8 bel8 B8 B7 C7 HB7 own7 own6 bel6 bel7 z6 z7 R5 O5 KC HB HDB HDB4 HB4 B5 BW4 z5 z4; obtain ⟨g, cap, rfl, hg1, hg2, hg3, hg4, cur, hG, hcs, htk⟩ := own_form O8.out (by omega)))
  have eu : Lib.byteCells (beB d.frp.toNat 2) ++ Lib.byteCells (beB d.top.toNat 2) ++ Lib.byteCells (beB (8 + l.length) 2) ++ [Value.int .u8 0, .int .u8 0] ++ Lib.byteCells l = Lib.byteCells (udpB d.frp d.top l 0) := by
    unfold udpB; rw [byteCells_app, byteCells_app, byteCells_app, byteCells_app, e00]
  rw [eu] at htk O8
  have BY8 : Hid (Bytes w8 (some ⟨g, 0, none⟩) (udpB d.frp d.top l 0)) := (own_bytes O8.out).2
  have GG := Lib.hid (And.intro hG htk)
  have ns : Hid (g ≠ w.heap.size) := by show g ≠ _; omega
  refine (summedF d.fr d.to_ _ (udpB d.frp d.top l 0) _ cap w8 (by exact BY8.out) (by rw [udpB_len]) (by rw [udpB_len]; have := HL.out; omega) HOK.out.f0 HOK.out.f1 HOK.out.t0 HOK.out.t1).mono ?_
  rintro e w9 ⟨rfl, b9⟩
  have hle9 : sumU d.fr d.to_ (udpB d.frp d.top l 0) ≤ 65535 := sumB_le _
  have HE : Hid (encS d.fr d.frp d.to_ d.top l = if sumU d.fr d.to_ (udpB d.frp d.top l 0) = 0 then 65535 else sumU d.fr d.to_ (udpB d.frp d.top l 0)) := rfl
  have O9 := Lib.hid (own_nx O8.out b9)
  have BW9 := Lib.hid (nx BW8.out b9)
  have HB9 := Lib.hid (b9)
  have c6 : w9.cell? ⟨g, 6, none⟩ = some (.int .u8 0) := (O9.out.cellAt 6 (by omega)).trans (by rw [udpB_cells d.frp d.top l 0 h1 h2 h3 h4 HL.out (by omega)]; rfl)
  have f6 : w9.frozen? ⟨g, 6, none⟩ = false := O9.out.frozenAt 6
  have f7 : w9.frozen? ⟨g, 7, none⟩ = false := O9.out.frozenAt 7
  have c7 : w9.cell? ⟨g, 7, none⟩ = some (.int .u8 0) := (O9.out.cellAt 7 (by omega)).trans (by rw [udpB_cells d.frp d.top l 0 h1 h2 h3 h4 HL.out (by omega)]; rfl)
  have z9 : w8.heap.size ≤ w9.heap.size := b9.size
  clear k0 k2 b9 htk hG GG BY8 O8 eu hcs hle
  generalize sumU d.fr d.to_ (udpB d.frp d.top l 0) = s at HE hle9 ⊢
  have i6 : (6 : Int) < ((8 + l.length : Nat) : Int) := by omega
  have i7 : (7 : Int) < ((8 + l.length : Nat) : Int) := by omega
  have hwg : w.heap.size ≤ g := by omega
  have hwz : w.heap.size ≤ w9.heap.size := by omega
  by_cases hs : s = 0
  · have HE2 : Hid (encS d.fr d.frp d.to_ d.top l = 65535) := by show _ = _; rw [HE.out, if_pos hs]
    subst hs
    clear HE hle9
    go_wp2
    go_ret2
    refine ⟨_, rfl, ?_⟩
    rw [HE2.out]
    have t := stored2 O9.out BW9.out hwg hwz 6 7 (.int .u8 (((65535 : Nat) : Int) / 256)) (.int .u8 (((65535 : Nat) : Int) % 256))
    rw [udpB_set d.frp d.top l 65535 h1 h2 h3 h4 HL.out (by omega)] at t
    unfold IsRow
    rw [udpB_len]
    exact ⟨own_base t.1 (by omega), t.2⟩
  · have q : ((s : Int) == 0) = false := by rw [beq_eq_false_iff_ne]; omega
    have HE2 : Hid (encS d.fr d.frp d.to_ d.top l = s) := by show _ = _; rw [HE.out, if_neg hs]
    clear hs HE
    go_wp2
    go_ret2
    refine ⟨_, rfl, ?_⟩
    rw [HE2.out]
    have t := stored2 O9.out BW9.out hwg hwz 6 7 (.int .u8 (((s : Nat) : Int) / 256)) (.int .u8 (((s : Nat) : Int) % 256))
    rw [udpB_set d.frp d.top l s h1 h2 h3 h4 HL.out (by omega)] at t
    unfold IsRow
    rw [udpB_len]
    exact ⟨own_base t.1 (by omega), t.2⟩
end Go.Proofs.Ytbhplleaokncpaa
