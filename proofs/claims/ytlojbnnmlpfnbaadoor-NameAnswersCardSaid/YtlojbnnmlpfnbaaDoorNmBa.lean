/-
  NameBack: for every message and whatever stands behind it the law 'what is written is read as it was' returns true.
-/
import Derived.Test.YtlojbnnmlpfnbaaDoorNmRs
import Derived.Test.YtlojbnnmlpfnbaaDoorNmLe
set_option linter.unusedVariables false
namespace Go.Proofs.YtlojbnnmlpfnbaaDoor
open Go.RowKit

theorem encM_len2 {M : Ms} {w : World} (hz : wrongI M = 0) (h : IsM w M) : (encM M).length ≤ 500000 := by
  have ok := mok_of hz
  have h1 := flat_len (l := M.q) (f := qB) (fun r hr => Nat.le_trans (qB_len (ok.q r hr)) (by omega))
  have h2 := flat_len (l := M.a) (f := aB) (fun r hr => aB_len (ok.a r hr) (h.ar r hr).2.2.1)
  have h3 := ok.ql
  have h4 := ok.al
  have h5 : ((h6 M).flatMap fun v => beB v.toNat 2).length = 12 := by rw [flat2_len]; rfl
  unfold encM
  rw [List.length_append, List.length_append, h5]
  omega
-- a slice of records, read as cells
theorem reads_rows {α : Type} {w : World} {A : Option Addr} {l : List α} {f : α → List Value} (hf : ∀ x, (f x).length = 5) (h : RowsAt w w.heap.size 5 A l.length (l.map f)) : Reads w w.heap.size 5 A l.length (l.flatMap f) := by
  have hlen : ∀ l : List α, (l.flatMap f).length = l.length * 5 := fun l => by
    induction l with
    | nil => rfl
    | cons x l ih => rw [List.flatMap_cons, List.length_append, hf, ih, List.length_cons]; omega
  refine ⟨hlen l, fun hn => ?_⟩
  obtain ⟨ad, e, hb, hc⟩ := h.2.2 hn
  refine ⟨ad, e, hb, fun j u hu => ?_⟩
  have hj : j < l.length * 5 := by rw [← hlen]; exact (List.getElem?_eq_some_iff.1 hu).1
  have hi : j / 5 < l.length := by omega
  have hx : l[j / 5]? = some l[j / 5] := List.getElem?_eq_getElem hi
  have e1 : j = j / 5 * 5 + j % 5 := by omega
  have h5 := flat_at hf l (j / 5) _ hx (j % 5) (Nat.mod_lt _ (by decide))
  rw [e1] at hu ⊢
  rw [h5] at hu
  exact hc (j / 5) (f l[j / 5]) (by rw [List.getElem?_map, hx]; rfl) (j % 5) u hu
theorem own_set5 {w : World} {B n c i : Nat} {ad : Addr} {xs : List Value} (h : w.ownsRow B 43 5 (.slice (some ad) n c) n xs) (hi : i < n * 5) (v : Value) (p : Addr) (hp : p = ad.add i) :
    (w.setCell p v).ownsRow B 43 5 (.slice (some ad) n c) n (xs.set i v) ∧ w.cell? p = xs[i]? ∧ w.frozen? p = false ∧ Below B w (w.setCell p v) := by
  subst hp
  have hl := h.1
  rcases h.2 with ⟨e, h0⟩ | ⟨g, cap, cur, e, hg, hh, h1, h2, h3, h4⟩
  · omega
  · injection e with e1 e2 e3
    injection e1 with e1
    subst e1 e3
    have hhb : Blk w g 43 cur := hh
    rw [Addr.add_mid, Nat.zero_add]
    refine ⟨⟨by rw [List.length_set]; exact hl, .inr ⟨g, c, cur.setIfInBounds i v, rfl, hg, hhb.set_ i v, h1, h2, by rw [Array.size_setIfInBounds]; exact h3, ?_⟩⟩, ?_, hhb.frozen i, (Below.refl _ _).setCell hg v⟩
    · rw [Array.toList_setIfInBounds, List.take_set, h4]
    · rw [hhb.cell i, ← h4, List.getElem?_take_of_lt hi, Array.getElem?_toList]
theorem flat_set {l : List Rc} {k : Nat} {r : Rc} (h : l[k]? = some r) :
    ((((l.take k).flatMap fun r => (rqZ r).cs) ++ (l.drop k).flatMap Rc.cs).set (k * 5 + 3) (.int .i64 0)).set (k * 5 + 4) (.slice none 0 0) = ((l.take (k + 1)).flatMap fun r => (rqZ r).cs) ++ (l.drop (k + 1)).flatMap Rc.cs := by
  have hk := (List.getElem?_eq_some_iff.1 h).1
  have he := (List.getElem?_eq_some_iff.1 h).2
  have hlen : ((l.take k).flatMap fun r => (rqZ r).cs).length = k * 5 := by
    have : ∀ m : List Rc, (m.flatMap fun r => (rqZ r).cs).length = m.length * 5 := fun m => by
      induction m with
      | nil => rfl
      | cons x m ih => rw [List.flatMap_cons, List.length_append, ih, List.length_cons]; show 5 + _ = _; omega
    rw [this, List.length_take]; omega
  rw [← take_flatV (f := fun r => (rqZ r).cs) h, List.drop_eq_getElem_cons hk, he, List.flatMap_cons]
  generalize (l.take k).flatMap (fun r => (rqZ r).cs) = A at hlen ⊢
  rw [List.set_append_right _ _ (by omega), List.set_append_right _ _ (by omega), hlen, show k * 5 + 3 - k * 5 = 3 by omega, show k * 5 + 4 - k * 5 = 4 by omega, List.append_assoc]
  rfl
set_option maxRecDepth 100000 in
set_option maxHeartbeats 6400000 in
theorem nameBack_walk (M : Ms) (more : List UInt8) (Am : Option Addr) (cm : Nat) (w : World) (h : AnyM w M) (hm : MaxL w) (hb : Bytes w Am more) (hml : more.length ≤ 140737488355328) :
    Calls Tryd.prog 6 #[.agg #[.int .i64 M.id, .int .i64 M.fl, .slice M.Q M.q.length M.n, .slice M.A M.a.length M.m], .slice Am more.length cm] w fun e w' => e = .returned (.bool true) ∧ Below w.heap.size w w' := by
  have X0 := Lib.hid (Blk.new w 36 #[.int .i64 M.id, .int .i64 M.fl, .slice M.Q M.q.length M.n, .slice M.A M.a.length M.m])
  have B0 := Lib.hid (al (rf w) (.cells #[.int .i64 M.id, .int .i64 M.fl, .slice M.Q M.q.length M.n, .slice M.A M.a.length M.m] 36))
  have H := Lib.hid h
  have HM := Lib.hid hm
  have HB := Lib.hid hb
  have HW : Hid (0 < w.heap.size) := by
    obtain ⟨m, hx⟩ := hm
    exact block_lt_of_cell hx
  clear h hm hb
  go_enter Tryd.func6, Tryd.ntmps6
  go_wp2_with fail
  refine (heavyC _ M (H.out.nx B0.out)).mono ?_
  rintro e w1 ⟨b, rfl, b1, hb⟩
  have B1 := Lib.hid (nx B0.out b1)
  have X1 := Lib.hid (X0.out.nx b1)
  cases b with
  | true =>
    clear hb b1
    go_wp2
    go_ret
    exact ⟨rfl, B1.out⟩
  | false =>
    have I1 : Hid (IsM w1 M) := (hb rfl).nx b1
    have BY1 := Lib.hid (HB.out.nx B1.out)
    clear hb b1
    by_cases hbig : (3000 : Int) < more.length
    · go_wp2
      go_ret
      exact ⟨rfl, B1.out⟩
    · have c0 := X1.out.cell 0
      have c1 := X1.out.cell 1
      have c2 := X1.out.cell 2
      have c3 := X1.out.cell 3
      simp only [List.getElem?_toArray, List.getElem?_cons_zero, List.getElem?_cons_succ] at c0 c1 c2 c3
      have hbig2 : more.length ≤ 3000 := by omega
      go_wp2_with fail
      refine (encNC w1 M I1.out (HM.out.below B1.out HW.out)).mono ?_
      rintro e w2 (⟨hz, A, c, rfl, own, b2⟩ | ⟨hz, rfl, b2⟩)
      · have I2 := Lib.hid (I1.out.nx b2)
        have B2 := Lib.hid (nx B1.out b2)
        have X2 := Lib.hid (X1.out.nx b2)
        have BY2 := Lib.hid (BY1.out.nx b2)
        have LE := encM_len2 hz I1.out
        have HZ := Lib.hid hz
        have hsz := b2.size
        have OW := Lib.hid own
        obtain ⟨l1, hl1⟩ : ∃ l1, encM M = l1 := ⟨_, rfl⟩
        have HL1 := Lib.hid hl1
        have hpos : 0 < l1.length := by rw [← hl1]; unfold encM; simp only [List.length_append, flat2_len]; unfold h6; simp; omega
        rw [hl1] at OW LE ⊢
        clear own hz c0 c1 c2 c3 hl1
        have B2' : Hid (Below w1.heap.size w1 w2) := b2
        clear b2
        go_wp2_with (at_builtin; refine app_any stB rfl (.tmp 32) (.tmp 33) rfl w1.heap.size (.slice A l1.length c) l1.length (Lib.byteCells l1) rfl OW.out Am more.length cm (Lib.byteCells more) rfl BY2.out (one_u8 _) (by omega) (by omega) hsz ?_; intro v3 w3 own3 gr3 at3 bel3; obtain ⟨A3, k3, rfl⟩ := own_slice own3)
        obtain ⟨g, cap, hv, hg1, hg2, hcap, hcapm, cur, hblk, _, _⟩ := own_form own3 (by omega)
        injection hv with hv1 _ hv3
        subst hv1 hv3
        obtain ⟨l, hl⟩ : ∃ l, l1 ++ more = l := ⟨_, rfl⟩
        have hll : l1.length + more.length = l.length := by rw [← hl, List.length_append]
        have hBY : Bytes w3 (some ⟨g, 0, none⟩) l := by
          rw [← byteCells_app, hl, hll] at own3
          exact Bytes.own own3
        have FD := decC w3 M HZ.out (fun r hr => (I2.out.ar r hr).2.2.1) (fun r hr => (I2.out.qr r hr).2.2.2) (fun r hr => (I2.out.ar r hr).2.2.2) more l (by rw [HL1.out]; exact hl.symm) g 0 k3 hBY (fun ad e => by injection e with e; subst e; exact ⟨cur, (0, 0), hblk⟩) (by omega) (by omega)
        rw [← hll] at FD
        have HFD := Lib.hid FD
        have B3 := Lib.hid (nx B1.out (B2'.out.trans bel3))
        have X3 := Lib.hid (X1.out.nx (B2'.out.trans bel3))
        have I3 := Lib.hid (I1.out.nx (B2'.out.trans bel3))
        clear FD hBY hblk own3 gr3 at3 bel3 hl hll hcap hcapm hg1 hg2
        refine HFD.out.mono ?_
        rintro e w4 ⟨M2, rfl, e1, e2, e3, e4, i4, b4⟩
        have N4 := Lib.hid i4
        have hx34 : w.heap.size < w3.heap.size := X3.out.lt
        have hx4 : w3.heap.size ≤ w4.heap.size := b4.size
        have I4 : Hid (IsM w4 M2) := i4 w4 (Nat.le_refl _) (fun _ _ _ => rfl)
        have B4 := Lib.hid (nx B3.out b4)
        have X4 := Lib.hid (X3.out.nx b4)
        have IM := Lib.hid (I3.out.nx b4)
        have E1 := Lib.hid e1
        have E2 := Lib.hid e2
        have E3 := Lib.hid e3
        have E4 := Lib.hid e4
        have Y5 := Lib.hid (Blk.new w4 36 #[.int .i64 M2.id, .int .i64 M2.fl, .slice M2.Q M2.q.length M2.n, .slice M2.A M2.a.length M2.m])
        have X5 := Lib.hid (X4.out.alloc (.cells #[.int .i64 M2.id, .int .i64 M2.fl, .slice M2.Q M2.q.length M2.n, .slice M2.A M2.a.length M2.m] 36))
        have B5 := Lib.hid (al B4.out (.cells #[.int .i64 M2.id, .int .i64 M2.fl, .slice M2.Q M2.q.length M2.n, .slice M2.A M2.a.length M2.m] 36))
        have I5 := Lib.hid (IM.out.nx (al (rf w4) (.cells #[.int .i64 M2.id, .int .i64 M2.fl, .slice M2.Q M2.q.length M2.n, .slice M2.A M2.a.length M2.m] 36)))
        have J5 := Lib.hid (I4.out.nx (al (rf w4) (.cells #[.int .i64 M2.id, .int .i64 M2.fl, .slice M2.Q M2.q.length M2.n, .slice M2.A M2.a.length M2.m] 36)))
        have c2 := X5.out.cell 2
        simp only [List.getElem?_toArray, List.getElem?_cons_zero, List.getElem?_cons_succ] at c2
        clear e1 e2 e3 e4 i4 b4 HFD I3 B3 X3 B4 X4 X1 X2 I1 I2 BY1 BY2 OW B2'
        have hs5 : (w4.alloc (.cells #[.int .i64 M2.id, .int .i64 M2.fl, .slice M2.Q M2.q.length M2.n, .slice M2.A M2.a.length M2.m] 36)).heap.size = w4.heap.size + 1 := by simp
        have c2a : ((w4.alloc (.cells #[.int .i64 M2.id, .int .i64 M2.fl, .slice M2.Q M2.q.length M2.n, .slice M2.A M2.a.length M2.m] 36)).alloc (.cells #[] 43)).cell? ⟨w.heap.size, 2, none⟩ = some (.slice M.Q M.q.length M.n) := (X5.out.alloc _).cell 2
        have OL : Hid (((w4.alloc (.cells #[.int .i64 M2.id, .int .i64 M2.fl, .slice M2.Q M2.q.length M2.n, .slice M2.A M2.a.length M2.m] 36)).alloc (.cells #[] 43)).ownsRow (w4.heap.size + 1) 43 5 (.slice (some ⟨w4.heap.size + 1, 0, none⟩) 0 0) 0 []) := own_lit (w4.alloc (.cells #[.int .i64 M2.id, .int .i64 M2.fl, .slice M2.Q M2.q.length M2.n, .slice M2.A M2.a.length M2.m] 36)) #[] 0 hs5.symm (Nat.le_refl _) (by unfold maxLen; omega) rfl
        have I6 := Lib.hid (I5.out.nx (al (rf _) (.cells #[] 43)))
        have J6 := Lib.hid (J5.out.nx (al (rf _) (.cells #[] 43)))
        have X6 := Lib.hid (X5.out.alloc (.cells #[] 43))
        have Y6 := Lib.hid (Y5.out.alloc (.cells #[] 43))
        have B6 := Lib.hid (al B5.out (.cells #[] 43))
        have hs6 : Hid (w4.heap.size + 1 ≤ ((w4.alloc (.cells #[.int .i64 M2.id, .int .i64 M2.fl, .slice M2.Q M2.q.length M2.n, .slice M2.A M2.a.length M2.m] 36)).alloc (.cells #[] 43)).heap.size) := by show _ ≤ _; simp
        have hq1 : ∀ u ∈ M.q.flatMap Rc.cs, u.oneCell' = true := fun u hu => by
          obtain ⟨r, _, h2⟩ := List.mem_flatMap.1 hu
          exact one5 u h2
        have HQ1 := Lib.hid hq1
        have hqn := I5.out.ql
        have RQ := Lib.hid (reads_rows (f := Rc.cs) (fun _ => rfl) I6.out.q)
        clear hs5 hq1 c2 I5 J5 X5 Y5 B5
        go_wp2_with (at_builtin; refine app_any stRc rfl (.tmp 38) (.tmp 40) rfl (w4.heap.size + 1) (.slice (some ⟨w4.heap.size + 1, 0, none⟩) 0 0) 0 [] rfl OL.out M.Q M.q.length M.n (M.q.flatMap Rc.cs) rfl RQ.out HQ1.out (by omega) (by omega) hs6.out ?_; intro v7 w7 own7 gr7 at7 bel7; obtain ⟨Q7, n7, rfl⟩ := own_slice own7)
        have O7 : Hid (w7.ownsRow (w4.heap.size + 1) 43 5 (.slice Q7 M.q.length n7) M.q.length (M.q.flatMap Rc.cs)) := by show World.ownsRow _ _ _ _ _ _ _; simpa using own7
        have B7 : Hid (Below (w4.heap.size + 1) ((w4.alloc (.cells #[.int .i64 M2.id, .int .i64 M2.fl, .slice M2.Q M2.q.length M2.n, .slice M2.A M2.a.length M2.m] 36)).alloc (.cells #[] 43)) w7) := bel7
        have BW : Hid (∀ ws, Below (w4.heap.size + 1) ((w4.alloc (.cells #[.int .i64 M2.id, .int .i64 M2.fl, .slice M2.Q M2.q.length M2.n, .slice M2.A M2.a.length M2.m] 36)).alloc (.cells #[] 43)) ws → Below w4.heap.size w4 ws) := fun ws q => (al (al (rf w4) _) _).trans (q.mono (by omega))
        clear own7 gr7 at7 bel7 c2a OL RQ I6 J6
        go_loopw [10] (fun kv ws => ∃ k : Nat, kv = .int .i64 k ∧ k ≤ M.q.length ∧ Hid (ws.ownsRow (w4.heap.size + 1) 43 5 (.slice Q7 M.q.length n7) M.q.length (((M.q.take k).flatMap fun r => (rqZ r).cs) ++ (M.q.drop k).flatMap Rc.cs)) ∧ Hid (Below (w4.heap.size + 1) ((w4.alloc (.cells #[.int .i64 M2.id, .int .i64 M2.fl, .slice M2.Q M2.q.length M2.n, .slice M2.A M2.a.length M2.m] 36)).alloc (.cells #[] 43)) ws)) (fun kv _ => M.q.length - (intOf kv).toNat)
        case atStart => exact ⟨0, rfl, by omega, by show World.ownsRow _ _ _ _ _ _ _; simpa using O7.out, B7.out⟩
        case round =>
          obtain ⟨k, rfl, hk, OW, BQ⟩ := hrel
          by_cases hlt : k < M.q.length
          · obtain ⟨r, hr⟩ : ∃ r, M.q[k]? = some r := ⟨_, List.getElem?_eq_getElem hlt⟩
            have HF := Lib.hid (flat_set hr)
            obtain ⟨ad, hAd, g, hg⟩ : ∃ ad, Q7 = some ad ∧ ∃ g, ad = ⟨g, 0, none⟩ := by
              rcases OW.out.2 with ⟨e, h0⟩ | ⟨g, cap, cur, e, _⟩
              · have h1 := OW.out.1; omega
              · injection e with e _ _; exact ⟨_, e, _, rfl⟩
            subst hAd
            have k0 : (0 : Int) ≤ k := by omega
            have k1 : (k : Int) < M.q.length := by omega
            have hp : ∀ j, (⟨(ad.add (k * 5)).block, (ad.add (k * 5)).off + j, none⟩ : Addr) = ad.add (k * 5 + j) := fun j => by
              rw [hg, Addr.add_mid, Addr.add_mid, Nat.zero_add, Nat.zero_add]
            have len1 := OW.out.1
            have S3 := own_set5 (i := k * 5 + 3) OW.out (by omega) (.int .i64 0) _ (hp 3)
            have S4 := own_set5 (i := k * 5 + 4) S3.1 (by omega) (.slice none 0 0) _ (hp 4)
            obtain ⟨v3, y3⟩ : ∃ v, wr.cell? ⟨(ad.add (k * 5)).block, (ad.add (k * 5)).off + 3, none⟩ = some v := ⟨_, S3.2.1.trans (List.getElem?_eq_getElem (by omega))⟩
            have f3 := S3.2.2.1
            obtain ⟨v4, y4⟩ : ∃ v, (wr.setCell ⟨(ad.add (k * 5)).block, (ad.add (k * 5)).off + 3, none⟩ (.int .i64 0)).cell? ⟨(ad.add (k * 5)).block, (ad.add (k * 5)).off + 4, none⟩ = some v := ⟨_, S4.2.1.trans (List.getElem?_eq_getElem (by rw [List.length_set]; omega))⟩
            have f4 := S4.2.2.1
            have OA := S4.1
            rw [HF.out] at OA
            have OB := Lib.hid OA
            have BB := Lib.hid ((BQ.out.trans S3.2.2.2).trans S4.2.2.2)
            clear hr hp S3 S4 OA len1 hg
            go_wp2
            go_roundw
            case rel => exact ⟨k + 1, by go_num, by omega, OB.out, BB.out⟩
            case measure => simp [intOf]; omega
          · have ek : k = M.q.length := by omega
            rw [ek, List.take_length, List.drop_length, List.flatMap_nil, List.append_nil] at OW
            have HEK := Lib.hid ek
            have XR := Lib.hid (X6.out.below BQ.out (by omega))
            have YR := Lib.hid (Y6.out.below BQ.out (by omega))
            have c2 := XR.out.cell 2
            have c2f := XR.out.frozen 2
            simp only [List.getElem?_toArray, List.getElem?_cons_zero, List.getElem?_cons_succ] at c2
            have k9 := only_set wr w.heap.size 2 (.slice Q7 M.q.length n7)
            have XS : Hid (Blk (wr.setCell ⟨w.heap.size, 2, none⟩ (.slice Q7 M.q.length n7)) w.heap.size 36 #[.int .i64 M.id, .int .i64 M.fl, .slice Q7 M.q.length n7, .slice M.A M.a.length M.m]) := XR.out.set_ 2 _
            have YS := Lib.hid (YR.out.only k9 (by omega))
            have BS : Hid (Below w.heap.size w (wr.setCell ⟨w.heap.size, 2, none⟩ (.slice Q7 M.q.length n7))) := (B6.out.trans (BQ.out.mono (by omega))).setCell (Nat.le_refl _) _
            have OS := Lib.hid (own_only OW.out k9 (by omega))
            have NS : Hid (IsM (wr.setCell ⟨w.heap.size, 2, none⟩ (.slice Q7 M.q.length n7)) M2) := by
              have hw4 := BW.out wr BQ.out
              refine N4.out _ (Nat.le_trans hw4.size k9.size) (fun i h1 h2 => ?_)
              rw [k9.block i (Nat.lt_of_lt_of_le h2 hw4.size) (by intro e; injection e with e; omega)]
              exact hw4.block i h2
            have MS : Hid (IsM (wr.setCell ⟨w.heap.size, 2, none⟩ (.slice Q7 M.q.length n7)) M) := by
              have hA := H.out.nx BS.out
              exact hA.is IM.out.ql IM.out.al (fun r hr => ⟨(IM.out.qr r hr).2.2.2, (IM.out.qr r hr).2.2.1⟩) (fun r hr => ⟨(IM.out.ar r hr).2.2.2, (IM.out.ar r hr).2.2.1⟩)
            have QS : Hid (IsM (wr.setCell ⟨w.heap.size, 2, none⟩ (.slice Q7 M.q.length n7)) ⟨M.id, M.fl, M.q.map rqZ, M.a, Q7, M.A, n7, M.m⟩) := by
              refine ⟨?_, MS.out.a, fun r hr => ?_, MS.out.ar, by show (M.q.map rqZ).length ≤ 3000; rw [List.length_map]; exact MS.out.ql, MS.out.al⟩
              · show RowsAt _ _ 5 Q7 (M.q.map rqZ).length ((M.q.map rqZ).map Rc.cs)
                rw [List.length_map, List.map_map]
                exact rows_own (f := fun r : Rc => (rqZ r).cs) (fun _ => rfl) OS.out rfl
              · obtain ⟨x, hx, rfl⟩ := List.mem_map.1 hr
                exact ⟨Bytes.nil _ _, Nat.le_refl _, Nat.zero_le _, (MS.out.qr x hx).2.2.2⟩
            have FM := msgC (wr.setCell ⟨w.heap.size, 2, none⟩ (.slice Q7 M.q.length n7)) ⟨M.id, M.fl, M.q.map rqZ, M.a, Q7, M.A, n7, M.m⟩ M2 QS.out NS.out E1.out.symm E2.out.symm (by show (M.q.map rqZ).map Rc.key = _; rw [E3.out]) E4.out.symm
            rw [show (⟨M.id, M.fl, M.q.map rqZ, M.a, Q7, M.A, n7, M.m⟩ : Ms).q.length = M.q.length from List.length_map _] at FM
            have HFM := Lib.hid FM
            have s0 := XS.out.cell 0
            have s1 := XS.out.cell 1
            have s2 := XS.out.cell 2
            have s3 := XS.out.cell 3
            have t0 := YS.out.cell 0
            have t1 := YS.out.cell 1
            have t2 := YS.out.cell 2
            have t3 := YS.out.cell 3
            simp only [List.getElem?_toArray, List.getElem?_cons_zero, List.getElem?_cons_succ] at s0 s1 s2 s3 t0 t1 t2 t3
            clear FM k9 ek
            go_wp2_with fail
            refine HFM.out.mono ?_
            rintro e w8 ⟨rfl, b8⟩
            have B8 := Lib.hid (nx BS.out b8)
            clear s0 s1 s2 s3 t0 t1 t2 t3 c2 c2f b8
            go_wp2_with fail
            refine (known _).mono ?_
            rintro e w9 ⟨rfl, b9⟩
            have B9 := Lib.hid (nx B8.out b9)
            clear b9
            go_wp2
            go_ret
            exact ⟨rfl, B9.out⟩
      · have I2 := Lib.hid (I1.out.nx b2)
        have B2 := Lib.hid (nx B1.out b2)
        obtain ⟨v, hv⟩ : ∃ v, wrongI M = v := ⟨_, rfl⟩
        rw [hv] at hz ⊢
        have hvv : ((v : Int) != 0) = true := by rw [bne_iff_ne]; exact hz
        clear b2 c0 c1 c2 c3 hv hz
        go_wp2_with fail
        refine (known _).mono ?_
        rintro e w5 ⟨rfl, b5⟩
        have B5 := Lib.hid (nx B2.out b5)
        clear b5
        go_wp2
        go_ret
        exact ⟨rfl, B5.out⟩
end Go.Proofs.YtlojbnnmlpfnbaaDoor
