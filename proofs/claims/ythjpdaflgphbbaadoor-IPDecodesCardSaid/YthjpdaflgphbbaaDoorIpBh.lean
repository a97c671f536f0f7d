/-
  IP: helpers for the law that what is written is read: an append that keeps, two packets that are alike, the padded packet's bytes.
-/
import Derived.Test.YthjpdaflgphbbaaDoorIpD3
import Derived.Test.YthjpdaflgphbbaaDoorIpBp
import Derived.Test.YthjpdaflgphbbaaDoorIpCt
set_option linter.unusedVariables false
namespace Go.Proofs.YthjpdaflgphbbaaDoor
open Go.RowKit

-- an append onto a row of one's own that is told from its first cells: these stay
theorem run_append_keeps {P : Program} (w : World) (base : Nat) (t ty e : TypeId) (i : TypeInfo) (z : Value) (bytes : Nat) (ht : P.underlying t = some (.slice e)) (hi : P.info? e = some i) (hz : i.zero = some z) (hsize : i.size = 1) (hby : i.bytes = bytes) (hzs : z.cells.size = 1)
    (g n cap : Nat) (xs : List Value) (hown : w.ownsRow base e 1 (.slice (some ⟨g, 0, none⟩) n cap) n xs) (A : Option Addr) (m c : Nat) (news : List Value) (hr : Reads w w.heap.size 1 A m news) (h1 : ∀ u ∈ news, u.oneCell' = true)
    (h63 : n + m ≤ 140737488355328) (hbytes : (n + m) * bytes ≤ 140737488355328) :
    ∃ A' c' w', (Builtin.append_ #[t, t] ty #[.slice (some ⟨g, 0, none⟩) n cap, .slice A m c]).run P w = .ok (.slice A' (n + m) c') w' ∧ Reads w' w'.heap.size 1 A' (n + m) (xs ++ news) ∧ w.grownBy w' (some g) ∧
      Reads w' w'.heap.size 1 (some ⟨g, 0, none⟩) n xs ∧ n + m ≤ c' := by
  have hxn : xs.length = n := by have := hown.1; omega
  rcases hown.2 with ⟨h0, _⟩ | ⟨g', cap', cur, h0, hbg, hg, hnc, hcm, hcs, htake⟩
  · cases h0
  injection h0 with h0 _ h0'
  injection h0 with h0
  injection h0 with h0 _ _
  subst h0 h0'
  have hgl : g < w.heap.size := Blk.lt (cs := cur) hg
  have old : Reads w w.heap.size 1 (some ⟨g, 0, none⟩) n xs := Reads.of_own hown
  rcases A with _ | ad
  · have hm : m = 0 := by
      rcases Nat.eq_zero_or_pos m with h0 | h0
      · exact h0
      · obtain ⟨ad, h, _⟩ := hr.2 h0; cases h
    subst hm
    have hn : news = [] := List.eq_nil_of_length_eq_zero (by simpa using hr.1)
    subst hn
    exact ⟨_, _, w, run_append_of_nil w base t ty e i 1 ht hi _ n xs hown c, by simpa using old, World.grownBy.refl w _, old, by omega⟩
  have hcells : ∀ j u, news[j]? = some u → w.cell? (ad.add j) = some u := by
    intro j u hu
    rcases Nat.eq_zero_or_pos m with h0 | h0
    · subst h0
      have hn : news = [] := List.eq_nil_of_length_eq_zero (by simpa using hr.1)
      subst hn; simp at hu
    · obtain ⟨ad', h, _, hc⟩ := hr.2 h0
      injection h with h; subst h
      exact hc j u hu
  have hnl : news.length = m := by have := hr.1; omega
  have hxt : cur.toList.take n = xs := by rw [← htake, Nat.mul_one]
  by_cases hroom : n + m ≤ cap
  · have hrun := run_append_room (P := P) w t ty e i ht hi g n cap cur hg ad m c news (by rw [hsize]; omega) hcells h1 hroom (by rw [hsize, hnl]; omega)
    rw [hsize, Nat.mul_one] at hrun
    have hG := setRow_heap w g cur (cur.toList.take n ++ news ++ cur.toList.drop (n + news.length)).toArray e (0, 0) hg
    refine ⟨_, _, _, hrun, ?_, ⟨rfl, rfl, rfl, by simp, fun k _ hk => setRow_other w g k _ (fun e => hk (by rw [e]))⟩, ?_, hroom⟩
    · refine ⟨by simp [hxn, hnl], fun _ => ⟨_, rfl, by simpa using hgl, fun j u hu => ?_⟩⟩
      have hj : j < (xs ++ news).length := (List.getElem?_eq_some_iff.1 hu).1
      rw [Addr.add_mid, Nat.zero_add]
      refine (Blk.cell hG j).trans ?_
      rw [hxt, List.getElem?_toArray, List.getElem?_append_left hj, hu]
    · refine ⟨by omega, fun _ => ⟨_, rfl, by simpa using hgl, fun j u hu => ?_⟩⟩
      have hj : j < xs.length := (List.getElem?_eq_some_iff.1 hu).1
      rw [Addr.add_mid, Nat.zero_add]
      refine (Blk.cell hG j).trans ?_
      rw [hxt, List.getElem?_toArray, List.getElem?_append_left (by rw [List.length_append]; omega), List.getElem?_append_left hj, hu]
  · have hrun := run_append_grow (P := P) w t ty e i z ht hi hz ⟨g, 0, none⟩ n cap xs (by rw [hsize]; omega) (hown.cells (g := g) rfl) ad m c news (by rw [hsize]; omega) hcells (by omega) (by omega) (growslice_fits (by omega) (by rw [hby]; exact hbytes))
    have hge := grownCap_ge w (n + m) cap e
    have bel : Below w.heap.size w (w.drew.alloc (.cells (xs.toArray ++ news.toArray ++ Builtin.zeroCells z.cells (grownCap w (n + m) cap e - (n + m))) e)) := ((Below.refl _ _).drew).alloc (by simp) _
    refine ⟨_, _, _, hrun, ⟨by simp [hxn, hnl], fun _ => ⟨_, rfl, by simp, fun j u hu => ?_⟩⟩, only_of bel, old.below bel |>.more bel.size, hge⟩
    have hj : j < (xs ++ news).length := (List.getElem?_eq_some_iff.1 hu).1
    rw [Addr.add_mid, Nat.zero_add]
    refine ((Blk.new w.drew e _).cell j).trans ?_
    rw [Array.getElem?_append_left (by simpa using hj), ← hu]
    simp
theorem app_keeps {P : Program} {T E : TypeId} {bytes : Nat} {z : Value} (S : SliceTy P T E 1 bytes z) {ops : Array Oper} {rest : List Oper} {o : Oper} {a : Act} {w : World} {Q : Exit → Act → World → Prop} (hgd : o.guard = none) (s x : Operand)
    (ho : o.op = .call { callee := .builtin .append, args := #[s, x], argTypes := #[T, T] })
    (base g n cap : Nat) (xs : List Value) (hs : a.eval s = .slice (some ⟨g, 0, none⟩) n cap) (hown : w.ownsRow base E 1 (.slice (some ⟨g, 0, none⟩) n cap) n xs)
    (A : Option Addr) (m c : Nat) (news : List Value) (hx : a.eval x = .slice A m c) (hr : Reads w w.heap.size 1 A m news) (h1 : ∀ u ∈ news, u.oneCell' = true) (h63 : n + m ≤ 140737488355328) (hbytes : (n + m) * bytes ≤ 140737488355328)
    (h : ∀ A' c' w', Reads w' w'.heap.size 1 A' (n + m) (xs ++ news) → w.grownBy w' (some g) → Reads w' w'.heap.size 1 (some ⟨g, 0, none⟩) n xs → n + m ≤ c' → wpList P ops Q rest (a.put o.dst (.slice A' (n + m) c')) w') : wpList P ops Q (o :: rest) a w := by
  obtain ⟨i, hi, hz0, hz1, hz2⟩ := info_parts S.hi
  obtain ⟨A', c', w', hrun, h2, h3, h4, h5⟩ := run_append_keeps (P := P) w base T o.type E i z bytes S.ht hi hz0 hz1 hz2 S.hz g n cap xs hown A m c news hr h1 h63 hbytes
  refine wpList_plain hgd fun _ hK => ?_
  unfold Oper.wp execOp
  simp only [ho, resolve, invoke, builtin, Sem.run_bind, Sem.run_pure, Result.andThen_ok, List.map_toArray, List.map_cons, List.map_nil, hs, hx, hrun]
  exact hK _ _ (h A' c' w' h2 h3 h4 h5)
theorem enc_pad (p : Pk) : encP (padP p) = encP p := by
  have h1 : ∀ s, hdr (padP p) s = hdr p s := by
    intro s
    unfold hdr hd1 hd2 padP
    simp only [size_pad]
    have e : (padO p.op) ++ List.replicate (sizeP p.op.length - 20 - (padO p.op).length) 0 = p.op ++ List.replicate (sizeP p.op.length - 20 - p.op.length) 0 := by
      rw [padO_len, Nat.sub_self, List.replicate_zero, List.append_nil]; rfl
    rw [List.append_assoc _ (padO p.op), e, ← List.append_assoc]
    rfl
  unfold encP
  rw [h1, h1]
  rfl
theorem may_pad (p : Pk) (h : mayI p = 0) : mayI (padP p) = 0 := by
  have ok := okP_of h
  have hz := size_facts p ok
  have hpl := padO_len p.op
  have hb : ¬ bad1 (padP p) := by
    have : ¬ bad1 p := by intro hb; unfold mayI at h; rw [if_pos hb] at h; cases h
    exact this
  have hin : inP (padP p) = true := by
    unfold inP padP
    simp only [size_pad]
    have h1 := ok.len
    have h2 := ok.off2
    simp only [Bool.and_eq_true, decide_eq_true_eq]
    exact ⟨h1, h2⟩
  unfold mayI
  rw [if_neg hb, if_neg (by rw [show (padP p).op = padO p.op from rfl, gd_pad p.op ok.g]; simp; omega), if_neg (by rw [hin]; simp)]
set_option maxHeartbeats 3200000 in
set_option maxRecDepth 10000 in
theorem packE (w : World) (p : Pk) (o d o' d' : Value) (h : IsPk w p o d) (h' : IsPk w p o' d') : Calls Tryd.prog 24 #[.agg (p.cs o d).toArray, .agg (p.cs o' d').toArray] w fun e w' => e = .returned (.bool true) ∧ Below w.heap.size w w' := by
  obtain ⟨⟨A, c, rfl, hb1, hc1⟩, ⟨B, e, rfl, hb2, hc2⟩, _, _, _, hol, hdl⟩ := h
  obtain ⟨⟨A', c', rfl, hb1', hc1'⟩, ⟨B', e', rfl, hb2', hc2'⟩, _, _, _, _, _⟩ := h'
  have B0 := Lib.hid (al (al (rf w) (.cells (p.cs (.slice A p.op.length c) (.slice B p.da.length e)).toArray 26)) (.cells (p.cs (.slice A' p.op.length c') (.slice B' p.da.length e')).toArray 26))
  have H1 : Hid (Blk ((w.alloc (.cells (p.cs (.slice A p.op.length c) (.slice B p.da.length e)).toArray 26)).alloc (.cells (p.cs (.slice A' p.op.length c') (.slice B' p.da.length e')).toArray 26)) w.heap.size 26 (p.cs (.slice A p.op.length c) (.slice B p.da.length e)).toArray) := (Blk.new w _ _).alloc _
  have H2 : Hid (Blk ((w.alloc (.cells (p.cs (.slice A p.op.length c) (.slice B p.da.length e)).toArray 26)).alloc (.cells (p.cs (.slice A' p.op.length c') (.slice B' p.da.length e')).toArray 26)) (w.heap.size + 1) 26 (p.cs (.slice A' p.op.length c') (.slice B' p.da.length e')).toArray) := blk_at _ _ _ (by simp)
  have HO := Lib.hid (same_ _ A A' p.op p.op _ _ c c' (hb1.nx B0.out) (hb1'.nx B0.out) rfl rfl (by omega) (by omega))
  have HD2 := Lib.hid hb2
  have HD2' := Lib.hid hb2'
  clear hb1 hb1' hb2 hb2'
  unfold Pk.cs at *
  go_enter Tryd.func24, Tryd.ntmps24
  go_wp2_with fail
  refine HO.out.mono ?_
  rintro e1 w1 ⟨rfl, b1⟩
  rw [show (p.op == p.op) = true by simp]
  have c1 : w1.cell? ⟨w.heap.size, 10, none⟩ = some (.slice B p.da.length e) := (H1.out.nx b1).cell 10
  have c2 : w1.cell? ⟨w.heap.size + 1, 10, none⟩ = some (.slice B' p.da.length e') := (H2.out.nx b1).cell 10
  go_wp2_with fail
  refine (same_ _ B B' p.da p.da _ _ e e' (HD2.out.nx (nx B0.out b1)) (HD2'.out.nx (nx B0.out b1)) rfl rfl (by omega) (by omega)).mono ?_
  rintro e2 w2 ⟨rfl, b2⟩
  rw [show (p.da == p.da) = true by simp]
  go_wp2
  go_ret
  exact ⟨rfl, nx (nx B0.out b1) b2⟩
end Go.Proofs.YthjpdaflgphbbaaDoor
