/-
  NameAnswers: for every count and every number the law 'a message's records are told in their order, however many' returns true.
-/
import Derived.Test.YtlojbnnmlpfnbaaDoorNmBa
set_option linter.unusedVariables false
namespace Go.Proofs.YtlojbnnmlpfnbaaDoor
open Go.RowKit

def ansR (i : Nat) : Rc := ⟨⟨#[97, 46, 98]⟩, 1, 1, i, [1, 2, 3, UInt8.ofNat i], none, 0⟩
def ansL (k : Nat) : List Rc := (List.range k).map ansR
theorem ansL_succ (k : Nat) : ansL (k + 1) = ansL k ++ [ansR k] := by simp [ansL, List.range_succ]
theorem ansL_len (k : Nat) : (ansL k).length = k := by simp [ansL]
-- what a record of it is
structure GoodR (r : Rc) : Prop where
  nm : r.nm = ⟨#[97, 46, 98]⟩
  t : r.t = 1
  c : r.c = 1
  u0 : 0 ≤ r.u
  u1 : r.u ≤ 64
  dl : r.da.length = 4
theorem good_key {as2 : List Rc} {k : Nat} (h : as2.map Rc.key = (ansL k).map Rc.key) (hk : k ≤ 64) : ∀ r ∈ as2, GoodR r := fun r hr => by
  have h1 : r.key ∈ (ansL k).map Rc.key := by rw [← h]; exact List.mem_map.2 ⟨r, hr, rfl⟩
  obtain ⟨x, hx, he⟩ := List.mem_map.1 h1
  obtain ⟨i, hi, rfl⟩ := List.mem_map.1 hx
  have hi := List.mem_range.1 hi
  unfold Rc.key ansR at he
  injection he with h2 he; injection he with h3 he; injection he with h4 he; injection he with h5 h6
  have h7 : (i : Int) = r.u := h5
  exact ⟨h2.symm, h3.symm, h4.symm, by omega, by omega, by rw [← h6]; rfl⟩
theorem any_no {l : List Rc} {p : Rc → Bool} (h : ∀ r ∈ l, p r = false) : l.any p = false := by
  rw [List.any_eq_false]
  intro r hr
  rw [h r hr]; simp
-- a record that is good, or the last one
def FineR (r : Rc) : Prop := r.nm.size ≤ 3000 ∧ isN r.nm.data.toList = true ∧ (r.t = 1 ∧ r.da.length = 4 ∨ r.t = 16 ∧ r.da = []) ∧ r.c = 1 ∧ 0 ≤ r.u ∧ r.u ≤ 64
theorem fine_wrong {id : Int} {as2 : List Rc} {A : Option Addr} {m : Nat} (i0 : 0 ≤ id) (i1 : id ≤ 65535) (h : ∀ r ∈ as2, FineR r) : wrongI ⟨id, 32768, [], as2, none, A, 0, m⟩ = if 64 < as2.length then 1 else 0 := by
  have g : goodV id = true := by unfold goodV; simp [i0, i1]
  have b1 : badN as2 false = false := any_no fun r hr => by
    obtain ⟨_, _, ht, hc, h0, h1⟩ := h r hr
    have ht2 : 0 ≤ r.t ∧ r.t ≤ 65535 := by rcases ht with ⟨ht, _⟩ | ⟨ht, _⟩ <;> omega
    unfold badR
    simp only [Bool.or_eq_false_iff, decide_eq_false_iff_not, Bool.and_eq_false_iff]
    exact ⟨⟨⟨⟨by omega, by omega⟩, by omega⟩, by omega⟩, .inr ⟨by omega, by omega⟩⟩
  have b2 : (as2.any fun r => nmBad r false) = false := any_no fun r hr => by
    obtain ⟨_, hn, ht, _⟩ := h r hr
    unfold nmBad
    have h5 : decide (r.t = 5) = false := by rw [decide_eq_false_iff_not]; rcases ht with ⟨ht, _⟩ | ⟨ht, _⟩ <;> omega
    rw [hn, h5]; rfl
  have b3 : (as2.any fun r => decide (r.t = 1) && decide (r.da.length ≠ 4)) = false := any_no fun r hr => by
    obtain ⟨_, _, ht, _⟩ := h r hr
    rcases ht with ⟨_, hd⟩ | ⟨ht, _⟩
    · simp [hd]
    · simp [ht]
  have b4 : (as2.any fun r => decide (65535 < r.da.length)) = false := any_no fun r hr => by
    obtain ⟨_, _, ht, _⟩ := h r hr
    rcases ht with ⟨_, hd⟩ | ⟨_, hd⟩
    · simp [hd]
    · simp [hd]
  have b5 : badN ([] : List Rc) true = false := rfl
  have gf : goodV 32768 = true := rfl
  unfold wrongI
  simp only [g, gf, b1, b2, b3, b4, b5]
  by_cases hl : 64 < as2.length
  · simp [hl]
  · simp [hl]
theorem ab_is : isN (⟨#[97, 46, 98]⟩ : ByteArray).data.toList = true := by decide +kernel
theorem a_is : isN (⟨#[97]⟩ : ByteArray).data.toList = true := by decide +kernel
theorem GoodR.fine {r : Rc} (h : GoodR r) : FineR r := ⟨by rw [h.nm]; decide, by rw [h.nm]; exact ab_is, .inl ⟨h.t, h.dl⟩, h.c, h.u0, h.u1⟩
-- the message that grows
structure Fin5 (w ws : World) (id : Int) (k : Nat) (A : Option Addr) (m : Nat) (rs : List Rc) : Prop where
  b : Blk ws w.heap.size 36 #[.int .i64 id, .int .i64 32768, .slice none 0 0, .slice A k m]
  own : ws.ownsRow (w.heap.size + 1) 43 5 (.slice A k m) k (rs.flatMap Rc.cs)
  by_ : ∀ r ∈ rs, Bytes ws r.A r.da ∧ r.da.length ≤ r.k
  ne : ∀ r ∈ rs, r.da ≠ [] → ∀ ad, r.A = some ad → (Value.slice A k m).ownBlock ≠ some ad.block ∧ w.heap.size + 1 ≤ ad.block
  fine : ∀ r ∈ rs, FineR r
  l : rs.length = k
  be : Below w.heap.size w ws
theorem Fin5.nx {w ws w' : World} {id : Int} {k : Nat} {A : Option Addr} {m : Nat} {rs : List Rc} (h : Fin5 w ws id k A m rs) (q : Below ws.heap.size ws w') : Fin5 w w' id k A m rs :=
  ⟨h.b.nx q, own_nx h.own q, fun r hr => ⟨(h.by_ r hr).1.nx q, (h.by_ r hr).2⟩, h.ne, h.fine, h.l, h.be.trans (q.mono h.be.size)⟩
theorem Fin5.is {w ws : World} {id : Int} {k : Nat} {A : Option Addr} {m : Nat} {rs : List Rc} (h : Fin5 w ws id k A m rs) (hk : k ≤ 3000) : IsM ws ⟨id, 32768, [], rs, none, A, 0, m⟩ := by
  have hA := rows_own (f := Rc.cs) (fun _ => rfl) h.own h.l
  refine ⟨⟨rfl, by simp, fun hn => absurd hn (by simp)⟩, ?_, by simp, fun r hr => ⟨(h.by_ r hr).1, (h.by_ r hr).2, ?_, ?_⟩, by simp, by show rs.length ≤ 3000; rw [h.l]; exact hk⟩
  · show RowsAt _ _ 5 A rs.length (rs.map Rc.cs)
    rw [h.l]
    exact hA
  · obtain ⟨_, _, ht, _⟩ := h.fine r hr
    rcases ht with ⟨_, hd⟩ | ⟨_, hd⟩
    · omega
    · rw [hd]; decide
  · exact (h.fine r hr).1
theorem Fin5.grow {w ws w1 w9 : World} {id : Int} {k j : Nat} {A A9 : Option Addr} {m m9 : Nat} {rs L : List Rc} (h : Fin5 w ws id k A m rs) (k1 : Below ws.heap.size ws w1) (hj : L.length = j)
    (hL : ∀ r ∈ L, FineR r ∧ Bytes w1 r.A r.da ∧ r.da.length ≤ r.k ∧ (r.da ≠ [] → ∀ ad, r.A = some ad → (Value.slice A k m).ownBlock ≠ some ad.block ∧ w.heap.size + 1 ≤ ad.block))
    (own9 : w9.ownsRow (w.heap.size + 1) 43 5 (.slice A9 (k + j) m9) (k + j) (rs.flatMap Rc.cs ++ L.flatMap Rc.cs)) (gr : w1.grownBy w9 (Value.slice A k m).ownBlock)
    (at9 : (Value.slice A9 (k + j) m9).ownBlock = (Value.slice A k m).ownBlock ∨ (Value.slice A9 (k + j) m9).ownBlock = some w1.heap.size) :
    Fin5 w (w9.setCell ⟨w.heap.size, 3, none⟩ (.slice A9 (k + j) m9)) id (k + j) A9 m9 (rs ++ L) := by
  have hlt := h.b.lt
  have k9 := only_set w9 w.heap.size 3 (.slice A9 (k + j) m9)
  have hown : ∀ i, (Value.slice A k m).ownBlock = some i → w.heap.size + 1 ≤ i ∧ i < ws.heap.size := fun i e => h.own.lt i e
  have b1 : Blk w9 w.heap.size 36 #[.int .i64 id, .int .i64 32768, .slice none 0 0, .slice A k m] := (h.b.nx k1).grown gr (fun e => by have := hown _ e.symm; omega)
  have hAll : ∀ r ∈ rs ++ L, FineR r ∧ Bytes w1 r.A r.da ∧ r.da.length ≤ r.k ∧ (r.da ≠ [] → ∀ ad, r.A = some ad → (Value.slice A k m).ownBlock ≠ some ad.block ∧ w.heap.size + 1 ≤ ad.block) := fun r hr => by
    rcases List.mem_append.1 hr with hr | hr
    · exact ⟨h.fine r hr, (h.by_ r hr).1.nx k1, (h.by_ r hr).2, h.ne r hr⟩
    · exact hL r hr
  refine ⟨b1.set_ 3 _, ?_, fun r hr => ⟨?_, (hAll r hr).2.2.1⟩, fun r hr h0 ad e => ⟨fun e2 => ?_, ((hAll r hr).2.2.2 h0 ad e).2⟩, fun r hr => (hAll r hr).1, by rw [List.length_append, h.l, hj], ?_⟩
  · have h1 := own_only own9 k9 (by omega)
    rw [List.flatMap_append]
    exact h1
  · obtain ⟨_, hb, _, hn⟩ := hAll r hr
    refine bytes_same hb (Nat.le_trans gr.size k9.size) (fun h0 ad e hl => ?_)
    obtain ⟨n1, n2⟩ := hn h0 ad e
    rw [k9.block _ (Nat.lt_of_lt_of_le hl gr.size) (by intro e; injection e with e; omega)]
    exact gr.block _ hl (fun e => n1 e.symm)
  · obtain ⟨_, hb, _, hn⟩ := hAll r hr
    rcases at9 with h3 | h3
    · exact (hn h0 ad e).1 (h3.symm.trans e2)
    · rw [e2] at h3
      injection h3 with h3
      obtain ⟨ad', e3, h4, _⟩ := hb.2 (List.length_pos_iff.2 h0)
      rw [e] at e3; injection e3 with e3; subst e3; omega
  · have h1 := h.be.trans (k1.mono h.be.size)
    have h2 : Below w.heap.size w w9 := h1.grown gr h1.size (fun g e => by have := hown g e; omega)
    exact h2.setCell (Nat.le_refl _) _
theorem fin_new (w : World) (id : Int) : Fin5 w (w.alloc (.cells #[.int .i64 id, .int .i64 32768, .slice none 0 0, .slice none 0 0] 36)) id 0 none 0 [] :=
  ⟨Blk.new _ _ _, World.ownsRow_nil _ _ _ _, by simp, by simp, by simp, rfl, al (rf w) _⟩
set_option maxRecDepth 100000 in
set_option maxHeartbeats 6400000 in
theorem nameAnswers_walk (n id : Int) (w : World) (hm : MaxL w) :
    Calls Tryd.prog 7 #[.int .i64 n, .int .i64 id] w fun e w' => e = .returned (.bool true) ∧ Below w.heap.size w w' := by
  by_cases n0 : n < 0
  · go_enter Tryd.func7, Tryd.ntmps7
    go_wp2_with fail
    refine (known _).mono ?_
    rintro e w1 ⟨rfl, b1⟩
    go_wp2
    go_ret
    exact ⟨rfl, b1⟩
  by_cases n1 : 64 < n
  · go_enter Tryd.func7, Tryd.ntmps7
    go_wp2_with fail
    refine (known _).mono ?_
    rintro e w1 ⟨rfl, b1⟩
    go_wp2
    go_ret
    exact ⟨rfl, b1⟩
  by_cases i0 : id < 0
  · go_enter Tryd.func7, Tryd.ntmps7
    go_wp2_with fail
    refine (known _).mono ?_
    rintro e w1 ⟨rfl, b1⟩
    go_wp2
    go_ret
    exact ⟨rfl, b1⟩
  by_cases i1 : 65535 < id
  · go_enter Tryd.func7, Tryd.ntmps7
    go_wp2_with fail
    refine (known _).mono ?_
    rintro e w1 ⟨rfl, b1⟩
    go_wp2
    go_ret
    exact ⟨rfl, b1⟩
  obtain ⟨N, rfl⟩ : ∃ N : Nat, n = N := ⟨n.toNat, by omega⟩
  have hN : N ≤ 64 := by omega
  have F0 := Lib.hid (fin_new w id)
  have HM := Lib.hid hm
  have HW : Hid (0 < w.heap.size) := by
    obtain ⟨m, hx⟩ := hm
    exact block_lt_of_cell hx
  clear hm
  go_enter Tryd.func7, Tryd.ntmps7
  go_wp2
  go_loopw [6] (fun kv ws => ∃ (k : Nat) (A : Option Addr) (m : Nat) (rs : List Rc), kv = .int .i64 k ∧ k ≤ N ∧ Hid (Fin5 w ws id k A m rs) ∧ Hid (rs.map Rc.key = (ansL k).map Rc.key)) (fun kv _ => N - (intOf kv).toNat)
  case atStart => exact ⟨0, none, 0, [], rfl, by omega, F0.out, rfl⟩
  case round =>
    obtain ⟨k, A, m, rs, rfl, hk, HF, HK⟩ := hrel
    have x3 : wr.cell? ⟨w.heap.size, 3, none⟩ = some (.slice A k m) := HF.out.b.cell 3
    by_cases hlt : k < N
    · have kb : (k : Int) < N := by omega
      have OW := Lib.hid HF.out.own
      have X3 : Hid (Blk wr w.heap.size 36 #[.int .i64 id, .int .i64 32768, .slice none 0 0, .slice A k m]) := HF.out.b
      have wsz := HF.out.b.lt
      have hk64 : k ≤ 64 := by omega
      go_wp2_with (at_builtin; refine app_any stRc rfl (.tmp 37) (.tmp 43) rfl (w.heap.size + 1) (.slice A k m) k (rs.flatMap Rc.cs) rfl ((OW.out.alloc (.cells #[.int .u8 1, .int .u8 2, .int .u8 3, .int .u8 k] 5)).alloc (.cells #[.string ⟨#[97, 46, 98]⟩, .int .i64 1, .int .i64 1, .int .i64 k, .slice (some ⟨wr.heap.size, 0, none⟩) 4 4] 43)) (some ⟨wr.heap.size + 1, 0, none⟩) 1 1 [.string ⟨#[97, 46, 98]⟩, .int .i64 1, .int .i64 1, .int .i64 k, .slice (some ⟨wr.heap.size, 0, none⟩) 4 4] rfl (reads5 (blk_at _ _ _ (by simp)) rfl) one5 (by omega) (by omega) (by simp; omega) ?_; intro v9 w9 own9 gr9 at9 bel9; obtain ⟨A9, k9, rfl⟩ := own_slice own9; have c9 := (((X3.out.alloc (.cells #[.int .u8 1, .int .u8 2, .int .u8 3, .int .u8 k] 5)).alloc (.cells #[.string ⟨#[97, 46, 98]⟩, .int .i64 1, .int .i64 1, .int .i64 k, .slice (some ⟨wr.heap.size, 0, none⟩) 4 4] 43)).below bel9 (by omega)).cell 3; have f9 := (((X3.out.alloc (.cells #[.int .u8 1, .int .u8 2, .int .u8 3, .int .u8 k] 5)).alloc (.cells #[.string ⟨#[97, 46, 98]⟩, .int .i64 1, .int .i64 1, .int .i64 k, .slice (some ⟨wr.heap.size, 0, none⟩) 4 4] 43)).below bel9 (by omega)).frozen 3; simp only [List.getElem?_toArray, List.getElem?_cons_zero, List.getElem?_cons_succ] at c9)
      have kb1 : Below wr.heap.size wr ((wr.alloc (.cells #[.int .u8 1, .int .u8 2, .int .u8 3, .int .u8 k] 5)).alloc (.cells #[.string ⟨#[97, 46, 98]⟩, .int .i64 1, .int .i64 1, .int .i64 k, .slice (some ⟨wr.heap.size, 0, none⟩) 4 4] 43)) := al (al (rf wr) _) _
      have hby : Bytes ((wr.alloc (.cells #[.int .u8 1, .int .u8 2, .int .u8 3, .int .u8 k] 5)).alloc (.cells #[.string ⟨#[97, 46, 98]⟩, .int .i64 1, .int .i64 1, .int .i64 k, .slice (some ⟨wr.heap.size, 0, none⟩) 4 4] 43)) (some ⟨wr.heap.size, 0, none⟩) [1, 2, 3, UInt8.ofNat k] := by
        refine Reads.blk ((Blk.new wr _ _).alloc _) rfl ?_
        have e : ((UInt8.ofNat k).toNat : Int) = k := by simp [UInt8.toNat_ofNat']; omega
        show Lib.byteCells [1, 2, 3, UInt8.ofNat k] = _
        simp [Lib.byteCells]
        omega
      have FN := Lib.hid (HF.out.grow (L := [⟨⟨#[97, 46, 98]⟩, 1, 1, k, [1, 2, 3, UInt8.ofNat k], some ⟨wr.heap.size, 0, none⟩, 4⟩]) kb1 rfl (fun r hr => by
        obtain rfl := List.mem_singleton.1 hr
        refine ⟨⟨by show (⟨#[97, 46, 98]⟩ : ByteArray).size ≤ 3000; decide, ab_is, .inl ⟨rfl, rfl⟩, rfl, by show (0 : Int) ≤ k; omega, by show (k : Int) ≤ 64; omega⟩, hby, by show 4 ≤ 4; omega, fun _ ad e => ?_⟩
        injection e with e
        subst e
        refine ⟨fun e2 => ?_, by show w.heap.size + 1 ≤ wr.heap.size; omega⟩
        have := (HF.out.own.lt _ e2).2
        exact absurd this (Nat.lt_irrefl _)) (by simpa [Rc.cs] using own9) gr9 (by simpa using at9))
      have KN : Hid ((rs ++ [(⟨⟨#[97, 46, 98]⟩, 1, 1, k, [1, 2, 3, UInt8.ofNat k], some ⟨wr.heap.size, 0, none⟩, 4⟩ : Rc)]).map Rc.key = (ansL (k + 1)).map Rc.key) := by
        show _ = _
        rw [List.map_append, HK.out, ansL_succ, List.map_append]
        rfl
      clear own9 gr9 at9 bel9 c9 f9 kb1 hby
      go_roundw
      case rel => exact ⟨k + 1, A9, k9, _, by go_num, by omega, FN.out, KN.out⟩
      case measure => simp [intOf]; omega
    · obtain rfl : N = k := by omega
      have x0 : wr.cell? ⟨w.heap.size, 0, none⟩ = some (.int .i64 id) := HF.out.b.cell 0
      have x1 : wr.cell? ⟨w.heap.size, 1, none⟩ = some (.int .i64 32768) := HF.out.b.cell 1
      have x2 : wr.cell? ⟨w.heap.size, 2, none⟩ = some (.slice none 0 0) := HF.out.b.cell 2
      have hl := HF.out.l
      have GK := Lib.hid (good_key HK.out hN)
      have IM := Lib.hid (HF.out.is (by omega))
      have hzM : wrongI ⟨id, 32768, [], rs, none, A, 0, m⟩ = 0 := by
        rw [fine_wrong i0 i1 HF.out.fine, hl, if_neg (by omega)]
      have FE := encNC wr ⟨id, 32768, [], rs, none, A, 0, m⟩ IM.out (HM.out.below HF.out.be HW.out)
      rw [show (⟨id, 32768, [], rs, none, A, 0, m⟩ : Ms).a.length = N from hl] at FE
      have HFE := Lib.hid FE
      have HZ := Lib.hid hzM
      have HL := Lib.hid hl
      clear FE hzM hl
      go_wp2_with fail
      refine HFE.out.mono ?_
      rintro e w2 (⟨_, A2, c2, rfl, own, b2⟩ | ⟨hz, rfl, b2⟩)
      rotate_left
      · exact absurd HZ.out hz
      have LE := encM_len2 HZ.out IM.out
      have F2 := Lib.hid (HF.out.nx b2)
      obtain ⟨l, hl⟩ : ∃ l, encM ⟨id, 32768, [], rs, none, A, 0, m⟩ = l := ⟨_, rfl⟩
      have HLL := Lib.hid hl
      rw [hl] at LE own ⊢
      have hpos : 0 < l.length := by rw [← hl]; unfold encM; simp only [List.length_append, flat2_len]; unfold h6; simp; omega
      obtain ⟨g, cap, hv, hg1, hg2, hcap, hcapm, cur, hblk, _, _⟩ := own_form own hpos
      injection hv with hv1 _ hv3
      subst hv1 hv3
      have hgd := good_key HK.out hN
      have FD := decC w2 ⟨id, 32768, [], rs, none, A, 0, m⟩ HZ.out (fun r hr => by rw [(hgd r hr).dl]; omega) (fun r hr => by simp at hr) (fun r hr => by rw [(hgd r hr).nm]; decide) [] l (by rw [List.append_nil, hl]) g 0 c2 (Bytes.own own) (fun ad e => by injection e with e; subst e; exact ⟨cur, (0, 0), hblk⟩) (by omega) (by omega)
      have HFD := Lib.hid FD
      clear FD own b2 hl x0 x1 x2 x3 hblk hg1 hg2 hcap hcapm hpos hgd HFE
      go_wp2_with fail
      refine HFD.out.mono ?_
      rintro e w4 ⟨M2, he, e1, e2, e3, e4, i4, b4⟩
      obtain ⟨id2, fl2, q2, a2, Q2, A2, n2, m2⟩ := M2
      have e1 := e1.symm
      have e2 := e2.symm
      have e3 := e3.symm
      simp only [List.map_nil] at e1 e2 e3 e4
      subst e1 e2 e3
      have hl2 : a2.length = N := by
        have h1 := congrArg List.length e4
        rw [List.length_map, List.length_map] at h1
        exact h1.trans HL.out
      have he2 : e = .returned (.tuple #[.agg #[.int .i64 id, .int .i64 32768, .slice Q2 0 n2, .slice A2 N m2], .int .i64 0]) := by
        rw [he, ← hl2]; rfl
      subst he2
      have I4 : Hid (IsM w4 ⟨id, 32768, [], a2, Q2, A2, n2, m2⟩) := i4 w4 (Nat.le_refl _) (fun _ _ _ => rfl)
      have F4 := Lib.hid (F2.out.nx b4)
      have E4 : Hid (a2.map Rc.key = (ansL N).map Rc.key) := e4.trans HK.out
      have k5 := al (rf w4) (.cells #[.int .i64 id, .int .i64 32768, .slice Q2 0 n2, .slice A2 N m2] 36)
      have F5 := Lib.hid (F4.out.nx k5)
      have I5 := Lib.hid (I4.out.nx k5)
      have Y5 := Lib.hid (Blk.new w4 36 #[.int .i64 id, .int .i64 32768, .slice Q2 0 n2, .slice A2 N m2])
      have y0 := Y5.out.cell 0
      have y3 := Y5.out.cell 3
      simp only [List.getElem?_toArray, List.getElem?_cons_zero, List.getElem?_cons_succ] at y0 y3
      have HL2 := Lib.hid hl2
      clear he e4 i4 b4 k5 hl2
      have hNN : ((N : Int) != N) = false := by simp
      have hii : (id != id) = false := by simp
      go_wp2
      generalize (w4.alloc (.cells #[.int .i64 id, .int .i64 32768, .slice Q2 0 n2, .slice A2 N m2] 36)) = w5 at F5 I5 Y5 y0 y3 ⊢
      obtain ⟨wz, hwz⟩ : ∃ wz, wz = w5 := ⟨_, rfl⟩
      have HWZ := Lib.hid hwz
      clear hwz
      go_loopw [11] (fun kv ws => ∃ j : Nat, kv = .int .i64 j ∧ j ≤ N ∧ Hid (ws = wz)) (fun kv _ => N - (intOf kv).toNat)
      case atStart => exact ⟨0, rfl, by omega, HWZ.out.symm⟩
      case round =>
        obtain ⟨j, rfl, hj, HWR⟩ := hrel
        have ewr : wr = w5 := HWR.out.trans HWZ.out
        subst ewr
        by_cases hlt2 : j < N
        · obtain ⟨r, hr⟩ : ∃ r, a2[j]? = some r := ⟨_, List.getElem?_eq_getElem (by have := HL2.out; omega)⟩
          have hkey : r.key = (ansR j).key := by
            have h1 := congrArg (fun l => l[j]?) E4.out
            simp only [List.getElem?_map, hr, ansL, List.getElem?_range hlt2, Option.map_some, Option.some.injEq] at h1
            exact h1
          unfold Rc.key ansR at hkey
          injection hkey with _ hkey; injection hkey with _ hkey; injection hkey with _ hkey; injection hkey with h5 h6
          have hu : r.u = j := h5
          have hda : r.da = [1, 2, 3, UInt8.ofNat j] := h6
          have rr := rows_rc (show RowsAt wr wr.heap.size 5 A2 a2.length (a2.map Rc.cs) from I5.out.a) hr
          obtain ⟨ad, rfl, _, hc⟩ := rr
          have hrok := (I5.out.ar r (List.mem_of_getElem? hr)).1
          rw [hda] at hrok
          obtain ⟨bd, uu, hA, _, huu, hcc⟩ := Reads.at_ (k := 3) hrok (by simp)
          have j0 : (0 : Int) ≤ j := by omega
          have j1 : (j : Int) < N := by omega
          have j64 : j ≤ 64 := by omega
          have hu8 : uu = .int .u8 j := by
            have e : ((UInt8.ofNat j).toNat : Int) = j := by simp [UInt8.toNat_ofNat']; omega
            rw [← e]
            exact (Option.some.inj huu).symm
          rw [hu8] at hcc
          have hcd : wr.cell? ⟨bd.block, bd.off + 3, none⟩ = some (.int .u8 j) := by simpa [Addr.add] using hcc
          have z3 : wr.cell? ⟨(ad.add (j * 5)).block, (ad.add (j * 5)).off + 3, none⟩ = some (.int .i64 j) := by rw [← hu]; exact hc 3 _ rfl
          have z4 : wr.cell? ⟨(ad.add (j * 5)).block, (ad.add (j * 5)).off + 4, none⟩ = some (.slice (some bd) 4 r.k) := by
            have h1 := hc 4 _ rfl
            rw [hA, hda] at h1
            exact h1
          have hjj : ((j : Int) != j) = false := by simp
          clear hr h5 h6 hu hda hc hrok huu hu8 hA
          go_wp2
          go_roundw
          case rel => exact ⟨j + 1, by go_num, by omega, HWR.out⟩
          case measure => simp [intOf]; omega
        · obtain rfl : N = j := by omega
          have q3 := F5.out.b.cell 3
          have qf := F5.out.b.frozen 3
          simp only [List.getElem?_toArray, List.getElem?_cons_zero, List.getElem?_cons_succ] at q3
          have hl := F5.out.l
          have h1c : ∀ u ∈ rs.flatMap Rc.cs, u.oneCell' = true := fun u hu => by
            obtain ⟨r, _, h2⟩ := List.mem_flatMap.1 hu
            exact one5 u h2
          have H1C := Lib.hid h1c
          have HL5 := Lib.hid hl
          have w5z := F5.out.b.lt
          clear h1c hl
          go_wp2_with (at_builtin; first
            | (refine app_any stRc rfl (.tmp 112) (.tmp 114) rfl (w.heap.size + 1) (.slice A N m) N (rs.flatMap Rc.cs) rfl F5.out.own A N m (rs.flatMap Rc.cs) rfl (Reads.of_own F5.out.own) H1C.out (by omega) (by omega) (by omega) ?_
               intro v7 w7 own7 gr7 at7 bel7
               obtain ⟨A7, m7, rfl⟩ := own_slice own7
               have B7 := (F5.out.b.below bel7 (by omega))
               have c7 := B7.cell 3
               have f7 := B7.frozen 3
               simp only [List.getElem?_toArray, List.getElem?_cons_zero, List.getElem?_cons_succ] at c7
               have F7 := Lib.hid (F5.out.grow (L := rs) (rf wr) HL5.out (fun r hr => ⟨F5.out.fine r hr, (F5.out.by_ r hr).1, (F5.out.by_ r hr).2, F5.out.ne r hr⟩) own7 gr7 at7)
               have w7z := F7.out.b.lt
               have c7s := F7.out.b.cell 3
               simp only [List.getElem?_toArray, List.getElem?_cons_zero, List.getElem?_cons_succ] at c7s
               have c7sa : ∀ o, ((w7.setCell ⟨w.heap.size, 3, none⟩ (.slice A7 (N + N) m7)).alloc o).cell? ⟨w.heap.size, 3, none⟩ = some (.slice A7 (N + N) m7) := fun o => (F7.out.b.alloc o).cell 3
               clear own7 gr7 at7 bel7 B7)
            | (refine app_any stRc rfl (.tmp 118) (.tmp 120) rfl (w.heap.size + 1) (.slice A7 (N + N) m7) (N + N) ((rs ++ rs).flatMap Rc.cs) rfl (F7.out.own.alloc (.cells #[.string ⟨#[97]⟩, .int .i64 16, .int .i64 1, .int .i64 0, .slice none 0 0] 43)) (some ⟨w7.heap.size, 0, none⟩) 1 1 [.string ⟨#[97]⟩, .int .i64 16, .int .i64 1, .int .i64 0, .slice none 0 0] rfl (reads5 (blk_at _ _ _ (by simp)) rfl) one5 (by omega) (by omega) (by simp at w7z ⊢; omega) ?_
               intro v9 w9 own9 gr9 at9 bel9
               obtain ⟨A9, m9, rfl⟩ := own_slice own9
               have B9 := (F7.out.b.alloc (.cells #[.string ⟨#[97]⟩, .int .i64 16, .int .i64 1, .int .i64 0, .slice none 0 0] 43)).below bel9 (by omega)
               have c9 := B9.cell 3
               have f9 := B9.frozen 3
               simp only [List.getElem?_toArray, List.getElem?_cons_zero, List.getElem?_cons_succ] at c9
               have F9 := Lib.hid (F7.out.grow (j := 1) (L := [⟨⟨#[97]⟩, 16, 1, 0, [], none, 0⟩]) (al (rf _) (.cells #[.string ⟨#[97]⟩, .int .i64 16, .int .i64 1, .int .i64 0, .slice none 0 0] 43)) rfl (fun r hr => by
                 obtain rfl := List.mem_singleton.1 hr
                 exact ⟨⟨by show (⟨#[97]⟩ : ByteArray).size ≤ 3000; decide, a_is, .inr ⟨rfl, rfl⟩, rfl, by show (0 : Int) ≤ 0; omega, by show (0 : Int) ≤ 64; omega⟩, Bytes.nil _ _, Nat.le_refl _, fun h => absurd rfl h⟩) (by simpa [Rc.cs] using own9) gr9 (by simpa using at9))
               have s0 := F9.out.b.cell 0
               have s1 := F9.out.b.cell 1
               have s2 := F9.out.b.cell 2
               have s3 := F9.out.b.cell 3
               simp only [List.getElem?_toArray, List.getElem?_cons_zero, List.getElem?_cons_succ] at s0 s1 s2 s3
               clear own9 gr9 at9 bel9 B9)
            | fail)
          obtain ⟨wf, hwf⟩ : ∃ wf, w9.setCell ⟨w.heap.size, 3, none⟩ (.slice A9 (N + N + 1) m9) = wf := ⟨_, rfl⟩
          rw [hwf] at F9 ⊢
          have IF := Lib.hid (F9.out.is (by omega))
          have hlf := F9.out.l
          have hfw := fine_wrong (A := A9) (m := m9) i0 i1 F9.out.fine
          rw [hlf] at hfw
          have FE := encNC wf ⟨id, 32768, [], _, none, A9, 0, m9⟩ IF.out (HM.out.below F9.out.be HW.out)
          rw [show (⟨id, 32768, [], rs ++ rs ++ [⟨⟨#[97]⟩, 16, 1, 0, [], none, 0⟩], none, A9, 0, m9⟩ : Ms).a.length = N + N + 1 from hlf] at FE
          have HFW := Lib.hid hfw
          have HFE := Lib.hid FE
          clear FE hfw hlf s0 s1 s2 s3 c9 f9 c7 f7 c7s c7sa q3 qf y0 y3 hwf
          refine HFE.out.mono ?_
          have fin : ∀ w2, Below wf.heap.size wf w2 → Below w.heap.size w w2 ∧ w2.cell? ⟨w.heap.size, 3, none⟩ = some (.slice A9 (N + N + 1) m9) := fun w2 b2 => by
            have h1 := F9.out.nx b2
            exact ⟨h1.be, h1.b.cell 3⟩
          have FIN := Lib.hid fin
          clear fin
          rintro e w2 (⟨hz, A3, c3, rfl, _, b2⟩ | ⟨hz, rfl, b2⟩)
          · obtain ⟨be2, f3⟩ := FIN.out w2 b2
            have hsm : ¬ 64 < N + N + 1 := by
              intro h
              have h1 := HFW.out.symm.trans hz
              rw [if_pos h] at h1
              cases h1
            generalize encM _ = lz
            generalize N + N + 1 = L at f3 hsm ⊢
            have hsm2 : ¬ (64 : Int) < (L : Int) := by omega
            have HSM := Lib.hid hsm2
            have BE := Lib.hid be2
            clear hz be2 b2 hsm
            go_wp2_with fail
            refine (known _).mono ?_
            rintro e w5 ⟨rfl, b5⟩
            have B5 := Lib.hid (nx BE.out b5)
            clear b5
            go_wp2
            go_ret
            refine ⟨?_, B5.out⟩
            show Ending.returned (.bool (!decide ((64 : Int) < (L : Int)))) = _
            rw [show decide ((64 : Int) < (L : Int)) = false from decide_eq_false (by have := HSM.out; omega)]
            rfl
          · obtain ⟨be2, f3⟩ := FIN.out w2 b2
            have hbg : 64 < N + N + 1 := by
              rcases Nat.lt_or_ge 64 (N + N + 1) with h | h
              · exact h
              · exact absurd (HFW.out.trans (if_neg (by omega))) hz
            have hone := HFW.out
            rw [if_pos hbg] at hone
            rw [hone]
            generalize N + N + 1 = L at f3 hbg ⊢
            have hbg2 : (64 : Int) < (L : Int) := by omega
            have BE := Lib.hid be2
            clear hz be2 b2 hone hbg
            go_wp2_with fail
            refine (known _).mono ?_
            rintro e w5 ⟨rfl, b5⟩
            have B5 := Lib.hid (nx BE.out b5)
            clear b5
            go_wp2
            go_ret
            exact ⟨rfl, B5.out⟩
end Go.Proofs.YtlojbnnmlpfnbaaDoor
