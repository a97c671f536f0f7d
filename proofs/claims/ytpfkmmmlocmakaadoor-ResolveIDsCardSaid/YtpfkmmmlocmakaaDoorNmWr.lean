/-
  Names: what the program finds wrong with a message.
-/
import Derived.Test.YtpfkmmmlocmakaaDoorNmGd
import Derived.Test.YtpfkmmmlocmakaaDoorOpn
set_option linter.unusedVariables false
namespace Go.Proofs.YtpfkmmmlocmakaaDoor
open Go.RowKit

structure Rc where
  nm : ByteArray
  (t c u : Int)
  da : List UInt8
  A : Option Addr
  k : Nat
def Rc.cs (r : Rc) : List Value := [.string r.nm, .int .i64 r.t, .int .i64 r.c, .int .i64 r.u, .slice r.A r.da.length r.k]
structure Ms where
  (id fl : Int)
  (q a : List Rc)
  (Q A : Option Addr)
  (n m : Nat)
def Ms.cs (m : Ms) : List Value := [.int .i64 m.id, .int .i64 m.fl, .slice m.Q m.q.length m.n, .slice m.A m.a.length m.m]
def RcOk (w : World) (r : Rc) : Prop := Bytes w r.A r.da ∧ r.da.length ≤ r.k ∧ r.da.length ≤ 3000 ∧ r.nm.size ≤ 3000
structure IsM (w : World) (m : Ms) : Prop where
  q : RowsAt w w.heap.size 5 m.Q m.q.length (m.q.map Rc.cs)
  a : RowsAt w w.heap.size 5 m.A m.a.length (m.a.map Rc.cs)
  qr : ∀ r ∈ m.q, RcOk w r
  ar : ∀ r ∈ m.a, RcOk w r
  ql : m.q.length ≤ 3000
  al : m.a.length ≤ 3000
theorem RcOk.nx {w w' : World} {r : Rc} (h : RcOk w r) (k : Below w.heap.size w w') : RcOk w' r := ⟨h.1.nx k, h.2⟩
theorem RowsAt.nx {w w' : World} {size n : Nat} {A : Option Addr} {l : List (List Value)} (h : RowsAt w w.heap.size size A n l) (k : Below w.heap.size w w') : RowsAt w' w'.heap.size size A n l := by
  have h1 := h.below k
  exact ⟨h1.1, h1.2.1, fun hn => by
    obtain ⟨ad, e, hb, hc⟩ := h1.2.2 hn
    exact ⟨ad, e, Nat.lt_of_lt_of_le hb k.size, hc⟩⟩
theorem IsM.nx {w w' : World} {m : Ms} (h : IsM w m) (k : Below w.heap.size w w') : IsM w' m :=
  ⟨h.q.nx k, h.a.nx k, fun r hr => (h.qr r hr).nx k, fun r hr => (h.ar r hr).nx k, h.ql, h.al⟩
-- a record's cells at its place
theorem rows_rc {w : World} {l : List Rc} {A : Option Addr} (h : RowsAt w w.heap.size 5 A l.length (l.map Rc.cs)) {i : Nat} {r : Rc} (hr : l[i]? = some r) : ∃ ad, A = some ad ∧ ad.block < w.heap.size ∧ ∀ j u, r.cs[j]? = some u → w.cell? ((ad.add (i * 5)).add j) = some u := by
  have hi : i < l.length := (List.getElem?_eq_some_iff.1 hr).1
  obtain ⟨ad, rr, e, hb, hrr, _, hc⟩ := h.row hi
  rw [List.getElem?_map, hr] at hrr
  injection hrr with hrr
  subst hrr
  exact ⟨ad, e, hb, hc⟩
theorem convStr (w : World) (A : Option Addr) (l : List UInt8) (n c : Nat) (h : Bytes w A l) (hn : n = l.length) : (convert 34 9 (.slice A n c)).run Tryd.prog w = .ok (.string ⟨l.toArray⟩) w := by
  subst hn
  by_cases h0 : l = []
  · subst h0
    rw [run_convert_bytes_string w 34 9 5 A ([] : List UInt8).length c Tryd.underlying34 Tryd.underlying5 Tryd.underlying9]
    cases A <;> (simp [Conv.bytesToString, loadCells, loadCellsFrom]; rfl)
  · obtain ⟨ad, e, _, _⟩ := h.2 (by have := List.length_pos_iff.2 h0; omega)
    subst e
    exact run_convert_bytes_back (P := Tryd.prog) w 34 9 5 ad c l Tryd.underlying34 Tryd.underlying5 Tryd.underlying9 (fun j hj => by
      obtain ⟨ad', hA, _, h3⟩ := h.at_ hj
      injection hA with hA
      subst hA
      exact h3)
-- numbers
def badN (l : List Rc) (q : Bool) : Bool := l.any fun r => badR r.t r.c r.u q
-- names
def nmBad (r : Rc) (q : Bool) : Bool := !isN r.nm.data.toList || (!q && decide (r.t = 5) && !isN r.da)
def wrongI (m : Ms) : Int :=
  if goodV m.id = false ∨ goodV m.fl = false ∨ 64 < m.q.length ∨ 64 < m.a.length then 1
  else if badN m.q true = true ∨ badN m.a false = true then 1
  else if (m.q.any fun r => nmBad r true) = true ∨ (m.a.any fun r => nmBad r false) = true then 9
  else if (m.a.any fun r => decide (r.t = 1) && decide (r.da.length ≠ 4)) = true then 3
  else if (m.a.any fun r => decide (65535 < r.da.length)) = true then 5 else 0
theorem any_hit {l : List Rc} {p : Rc → Bool} {k : Nat} {r : Rc} (hr : l[k]? = some r) (h : p r = true) : l.any p = true := List.any_eq_true.2 ⟨r, List.mem_of_getElem? hr, h⟩
theorem any_none {l : List Rc} {p : Rc → Bool} (h : ∀ (j : Nat) (r : Rc), l[j]? = some r → p r = false) : l.any p = false := by
  rw [List.any_eq_false]
  intro r hr
  obtain ⟨j, hj⟩ := List.getElem?_of_mem hr
  rw [h j r hj]; simp
theorem all_step {l : List Rc} {p : Rc → Bool} {k : Nat} {r : Rc} (hr : l[k]? = some r) (hk : ∀ (j : Nat) (r : Rc), l[j]? = some r → j < k → p r = false) (h : p r = false) : ∀ (j : Nat) (r : Rc), l[j]? = some r → j < k + 1 → p r = false := fun j r' hr' hj => by
  by_cases e : j = k
  · subst e
    rw [hr] at hr'
    injection hr' with hr'
    subst hr'
    exact h
  · exact hk j r' hr' (by omega)

set_option maxRecDepth 100000 in
set_option maxHeartbeats 6400000 in
theorem wrongC (w : World) (M : Ms) (h : IsM w M) (hm : MaxL w) : Calls Tryd.prog 35 #[.agg #[.int .i64 M.id, .int .i64 M.fl, .slice M.Q M.q.length M.n, .slice M.A M.a.length M.m]] w fun e w' => e = .returned (.int .i64 (wrongI M)) ∧ Below w.heap.size w w' := by
  have X0 := Lib.hid (Blk.new w 43 #[.int .i64 M.id, .int .i64 M.fl, .slice M.Q M.q.length M.n, .slice M.A M.a.length M.m])
  have B0 := Lib.hid (al (rf w) (.cells #[.int .i64 M.id, .int .i64 M.fl, .slice M.Q M.q.length M.n, .slice M.A M.a.length M.m] 43))
  have HM0 := Lib.hid (h.nx B0.out)
  have HL0 := Lib.hid (hm.nx B0.out)
  have hql := h.ql
  have hal := h.al
  clear h hm
  cases h1 : goodV M.id
  · have HR : Hid (wrongI M = 1) := by show _ = _; unfold wrongI; rw [if_pos (by simp [h1])]
    go_enter Tryd.func35, Tryd.ntmps35
    go_wp2_with fail
    refine (goodC _ M.id).mono ?_
    rintro e w1 ⟨rfl, rfl⟩
    rw [h1]
    go_wp2
    go_ret
    exact ⟨by rw [HR.out]; rfl, B0.out⟩
  cases h2 : goodV M.fl
  · have HR : Hid (wrongI M = 1) := by show _ = _; unfold wrongI; rw [if_pos (by simp [h2])]
    go_enter Tryd.func35, Tryd.ntmps35
    go_wp2_with fail
    refine (goodC _ M.id).mono ?_
    rintro e w1 ⟨rfl, rfl⟩
    rw [h1]
    go_wp2_with fail
    refine (goodC _ M.fl).mono ?_
    rintro e w2 ⟨rfl, rfl⟩
    rw [h2]
    go_wp2
    go_ret
    exact ⟨by rw [HR.out]; rfl, B0.out⟩
  by_cases h3 : 64 < M.q.length
  · have HR : Hid (wrongI M = 1) := by show _ = _; unfold wrongI; rw [if_pos (by simp [h3])]
    have ih3 : (64 : Int) < M.q.length := by omega
    go_enter Tryd.func35, Tryd.ntmps35
    go_wp2_with fail
    refine (goodC _ M.id).mono ?_
    rintro e w1 ⟨rfl, rfl⟩
    rw [h1]
    go_wp2_with fail
    refine (goodC _ M.fl).mono ?_
    rintro e w2 ⟨rfl, rfl⟩
    rw [h2]
    go_wp2
    go_ret
    exact ⟨by rw [HR.out]; rfl, B0.out⟩
  by_cases h4 : 64 < M.a.length
  · have HR : Hid (wrongI M = 1) := by show _ = _; unfold wrongI; rw [if_pos (by simp [h4])]
    have ih4 : (64 : Int) < M.a.length := by omega
    have ih3 : ¬ (64 : Int) < M.q.length := by omega
    go_enter Tryd.func35, Tryd.ntmps35
    go_wp2_with fail
    refine (goodC _ M.id).mono ?_
    rintro e w1 ⟨rfl, rfl⟩
    rw [h1]
    go_wp2_with fail
    refine (goodC _ M.fl).mono ?_
    rintro e w2 ⟨rfl, rfl⟩
    rw [h2]
    go_wp2
    go_ret
    exact ⟨by rw [HR.out]; rfl, B0.out⟩
  have HW : Hid (wrongI M = if badN M.q true = true ∨ badN M.a false = true then 1 else if (M.q.any fun r => nmBad r true) = true ∨ (M.a.any fun r => nmBad r false) = true then 9 else if (M.a.any fun r => decide (r.t = 1) && decide (r.da.length ≠ 4)) = true then 3 else if (M.a.any fun r => decide (65535 < r.da.length)) = true then 5 else 0) := by
    show _ = _; unfold wrongI; rw [if_neg (by rw [h1, h2]; simp; omega)]
  have i3 : ¬ (64 : Int) < M.q.length := by omega
  have i4 : ¬ (64 : Int) < M.a.length := by omega
  go_enter Tryd.func35, Tryd.ntmps35
  go_wp2_with fail
  refine (goodC _ M.id).mono ?_
  rintro e w1 ⟨rfl, rfl⟩
  rw [h1]
  go_wp2_with fail
  refine (goodC _ M.fl).mono ?_
  rintro e w2 ⟨rfl, rfl⟩
  rw [h2]
  generalize hWW : w.alloc (.cells #[.int .i64 M.id, .int .i64 M.fl, .slice M.Q M.q.length M.n, .slice M.A M.a.length M.m] 43) = W at X0 B0 HM0 HL0 ⊢
  clear hWW h1 h2
  have HM := Lib.hid HM0.out
  have hg0 := X0.out.lt
  have c2 : ∀ wr, Below W.heap.size W wr → wr.cell? ⟨w.heap.size, 2, none⟩ = some (.slice M.Q M.q.length M.n) := fun wr k => (X0.out.nx k).cell 2
  have c3 : ∀ wr, Below W.heap.size W wr → wr.cell? ⟨w.heap.size, 3, none⟩ = some (.slice M.A M.a.length M.m) := fun wr k => (X0.out.nx k).cell 3
  have C2 := Lib.hid c2
  have C3 := Lib.hid c3
  have e2 := c2 W (rf W)
  have e3 := c3 W (rf W)
  clear c2 c3
  go_wp2
  go_loopw [44] (fun iv wr => Hid (Below W.heap.size W wr) ∧ (iv = .int .i64 0 ∨ (iv = .int .i64 1 ∧ badN M.q true = false) ∨ (iv = .int .i64 2 ∧ badN M.q true = false ∧ badN M.a false = false))) (fun iv _ => 2 - (intOf iv).toNat)
  case atStart => exact ⟨rf W, .inl rfl⟩
  case round =>
    obtain ⟨HBo, hcase⟩ := hrel
    clear e2 e3
    rcases hcase with rfl | ⟨rfl, hq⟩ | ⟨rfl, hq, ha⟩
    · have hix : ∀ w : World, (Instr.index 116 (.agg #[.slice M.Q M.q.length M.n, .slice M.A M.a.length M.m]) (.int .i64 0)).run Tryd.prog w = .ok (.slice M.Q M.q.length M.n) w := fun w => run_index_arr Tryd.underlying116 (fun w => by kernel_rfl) (fun w => by kernel_rfl) _ .i64 0 (by decide) _ rfl w
      go_wp2
      go_loopw [50] (fun kv wr => ∃ k : Nat, kv = .int .i64 k ∧ k ≤ M.q.length ∧ Hid (Below W.heap.size W wr) ∧ Hid (∀ (j : Nat) (r : Rc), M.q[j]? = some r → j < k → (fun r => badR r.t r.c r.u true) r = false)) (fun kv _ => M.q.length - (intOf kv).toNat)
      case atStart => exact ⟨0, rfl, by omega, HBo.out, fun j r _ hk => by omega⟩
      case round =>
        obtain ⟨k, rfl, hk, HB, HK⟩ := hrel
        by_cases hlt : k < M.q.length
        rotate_left
        · have hE := any_none (l := M.q) (p := (fun r => badR r.t r.c r.u true)) (fun j r hr => HK.out j r hr (by have := (List.getElem?_eq_some_iff.1 hr).1; omega))
          have HE := Lib.hid hE
          clear hE
          have e2 := C2.out wr HB.out
          have e3 := C3.out wr HB.out
          go_wp2
          go_roundw
          case rel => exact ⟨HB.out, .inr (.inl ⟨rfl, HE.out⟩)⟩
          case measure => simp [intOf]
        · have HF : Hid (badN M.q true = true → wrongI M = 1) := fun h => by rw [HW.out, if_pos (.inl h)]
          obtain ⟨r, hr⟩ : ∃ r, M.q[k]? = some r := ⟨_, List.getElem?_eq_getElem hlt⟩
          obtain ⟨ad, hAd, hadb, hcell⟩ := rows_rc (HM.out.nx HB.out).q hr
          rw [hAd]
          have HCELL : Hid (∀ j u, ([.string r.nm, .int .i64 r.t, .int .i64 r.c, .int .i64 r.u, .slice r.A r.da.length r.k] : List Value)[j]? = some u → wr.cell? ((ad.add (k * 5)).add j) = some u) := hcell
          have HRC := Lib.hid hr
          have HB1 : Hid (Below W.heap.size W (wr.alloc (.cells #[.string r.nm, .int .i64 r.t, .int .i64 r.c, .int .i64 r.u, .slice r.A r.da.length r.k] 48))) := al HB.out _
          have k1 : (k : Int) < M.q.length := by omega
          have k0 : (0 : Int) ≤ k := by omega
          clear hcell hr hadb
          have hbb := badR_good r.t r.c r.u true
          have HBB := Lib.hid hbb
          clear hbb
          cases hT : goodV r.t
          · have hx := HBB.out
            rw [hT] at hx
            have HX : Hid (badR r.t r.c r.u true = true) := by show _ = _; rw [hx]; rfl
            clear hx
            go_wp2_with (with_reducible refine wpList_load_any rfl 48 (.tmp 52) rfl (ad.add (k * 5)) (by kernel_rfl) [.string r.nm, .int .i64 r.t, .int .i64 r.c, .int .i64 r.u, .slice r.A r.da.length r.k] _ HCELL.out Tryd.underlying48 (by kernel_rfl) (by kernel_rfl) ?_)
            refine (goodC _ r.t).mono ?_
            rintro e w3 ⟨rfl, rfl⟩
            rw [hT]
            clear hT
            have hbad := any_hit (p := (fun r => badR r.t r.c r.u true)) HRC.out (HX.out)
            have HR := Lib.hid (HF.out hbad)
            clear hbad
            go_wp2
            go_ret
            exact ⟨by rw [HR.out]; rfl, nx B0.out HB1.out⟩
          · cases hC : goodV r.c
            · have hx := HBB.out
              rw [hT, hC] at hx
              have HX : Hid (badR r.t r.c r.u true = true) := by show _ = _; rw [hx]; rfl
              clear hx
              go_wp2_with (with_reducible refine wpList_load_any rfl 48 (.tmp 52) rfl (ad.add (k * 5)) (by kernel_rfl) [.string r.nm, .int .i64 r.t, .int .i64 r.c, .int .i64 r.u, .slice r.A r.da.length r.k] _ HCELL.out Tryd.underlying48 (by kernel_rfl) (by kernel_rfl) ?_)
              refine (goodC _ r.t).mono ?_
              rintro e w3 ⟨rfl, rfl⟩
              rw [hT]
              go_wp2_with fail
              refine (goodC _ r.c).mono ?_
              rintro e w4 ⟨rfl, rfl⟩
              rw [hC]
              clear hT hC
              have hbad := any_hit (p := (fun r => badR r.t r.c r.u true)) HRC.out (HX.out)
              have HR := Lib.hid (HF.out hbad)
              clear hbad
              go_wp2
              go_ret
              exact ⟨by rw [HR.out]; rfl, nx B0.out HB1.out⟩
            · have hx := HBB.out
              rw [hT, hC] at hx
              have HX : Hid (badR r.t r.c r.u true = false) := by show _ = _; rw [hx]; rfl
              clear hx
              go_wp2_with (with_reducible refine wpList_load_any rfl 48 (.tmp 52) rfl (ad.add (k * 5)) (by kernel_rfl) [.string r.nm, .int .i64 r.t, .int .i64 r.c, .int .i64 r.u, .slice r.A r.da.length r.k] _ HCELL.out Tryd.underlying48 (by kernel_rfl) (by kernel_rfl) ?_)
              refine (goodC _ r.t).mono ?_
              rintro e w3 ⟨rfl, rfl⟩
              rw [hT]
              go_wp2_with fail
              refine (goodC _ r.c).mono ?_
              rintro e w4 ⟨rfl, rfl⟩
              rw [hC]
              clear hT hC
              have HN := Lib.hid (all_step (p := (fun r => badR r.t r.c r.u true)) HRC.out HK.out (HX.out))
              go_wp2
              go_roundw
              case rel => exact ⟨k + 1, by go_num, by omega, HB1.out, HN.out⟩
              case measure => simp [intOf]; omega
    · have hix : ∀ w : World, (Instr.index 116 (.agg #[.slice M.Q M.q.length M.n, .slice M.A M.a.length M.m]) (.int .i64 1)).run Tryd.prog w = .ok (.slice M.A M.a.length M.m) w := fun w => run_index_arr Tryd.underlying116 (fun w => by kernel_rfl) (fun w => by kernel_rfl) _ .i64 1 (by decide) _ rfl w
      go_wp2
      go_loopw [50] (fun kv wr => ∃ k : Nat, kv = .int .i64 k ∧ k ≤ M.a.length ∧ Hid (Below W.heap.size W wr) ∧ Hid (∀ (j : Nat) (r : Rc), M.a[j]? = some r → j < k → (fun r => badR r.t r.c r.u false) r = false)) (fun kv _ => M.a.length - (intOf kv).toNat)
      case atStart => exact ⟨0, rfl, by omega, HBo.out, fun j r _ hk => by omega⟩
      case round =>
        obtain ⟨k, rfl, hk, HB, HK⟩ := hrel
        by_cases hlt : k < M.a.length
        rotate_left
        · have hE := any_none (l := M.a) (p := (fun r => badR r.t r.c r.u false)) (fun j r hr => HK.out j r hr (by have := (List.getElem?_eq_some_iff.1 hr).1; omega))
          have HE := Lib.hid hE
          clear hE
          have e2 := C2.out wr HB.out
          have e3 := C3.out wr HB.out
          go_wp2
          go_roundw
          case rel => exact ⟨HB.out, .inr (.inr ⟨rfl, hq, HE.out⟩)⟩
          case measure => simp [intOf]
        · have HF : Hid (badN M.a false = true → wrongI M = 1) := fun h => by rw [HW.out, if_pos (.inr h)]
          obtain ⟨r, hr⟩ : ∃ r, M.a[k]? = some r := ⟨_, List.getElem?_eq_getElem hlt⟩
          obtain ⟨ad, hAd, hadb, hcell⟩ := rows_rc (HM.out.nx HB.out).a hr
          rw [hAd]
          have HCELL : Hid (∀ j u, ([.string r.nm, .int .i64 r.t, .int .i64 r.c, .int .i64 r.u, .slice r.A r.da.length r.k] : List Value)[j]? = some u → wr.cell? ((ad.add (k * 5)).add j) = some u) := hcell
          have HRC := Lib.hid hr
          have HB1 : Hid (Below W.heap.size W (wr.alloc (.cells #[.string r.nm, .int .i64 r.t, .int .i64 r.c, .int .i64 r.u, .slice r.A r.da.length r.k] 48))) := al HB.out _
          have k1 : (k : Int) < M.a.length := by omega
          have k0 : (0 : Int) ≤ k := by omega
          clear hcell hr hadb
          have hbb := badR_good r.t r.c r.u false
          have HBB := Lib.hid hbb
          clear hbb
          cases hT : goodV r.t
          · have hx := HBB.out
            rw [hT] at hx
            have HX : Hid (badR r.t r.c r.u false = true) := by show _ = _; rw [hx]; rfl
            clear hx
            go_wp2_with (with_reducible refine wpList_load_any rfl 48 (.tmp 52) rfl (ad.add (k * 5)) (by kernel_rfl) [.string r.nm, .int .i64 r.t, .int .i64 r.c, .int .i64 r.u, .slice r.A r.da.length r.k] _ HCELL.out Tryd.underlying48 (by kernel_rfl) (by kernel_rfl) ?_)
            refine (goodC _ r.t).mono ?_
            rintro e w3 ⟨rfl, rfl⟩
            rw [hT]
            clear hT
            have hbad := any_hit (p := (fun r => badR r.t r.c r.u false)) HRC.out (HX.out)
            have HR := Lib.hid (HF.out hbad)
            clear hbad
            go_wp2
            go_ret
            exact ⟨by rw [HR.out]; rfl, nx B0.out HB1.out⟩
          · cases hC : goodV r.c
            · have hx := HBB.out
              rw [hT, hC] at hx
              have HX : Hid (badR r.t r.c r.u false = true) := by show _ = _; rw [hx]; rfl
              clear hx
              go_wp2_with (with_reducible refine wpList_load_any rfl 48 (.tmp 52) rfl (ad.add (k * 5)) (by kernel_rfl) [.string r.nm, .int .i64 r.t, .int .i64 r.c, .int .i64 r.u, .slice r.A r.da.length r.k] _ HCELL.out Tryd.underlying48 (by kernel_rfl) (by kernel_rfl) ?_)
              refine (goodC _ r.t).mono ?_
              rintro e w3 ⟨rfl, rfl⟩
              rw [hT]
              go_wp2_with fail
              refine (goodC _ r.c).mono ?_
              rintro e w4 ⟨rfl, rfl⟩
              rw [hC]
              clear hT hC
              have hbad := any_hit (p := (fun r => badR r.t r.c r.u false)) HRC.out (HX.out)
              have HR := Lib.hid (HF.out hbad)
              clear hbad
              go_wp2
              go_ret
              exact ⟨by rw [HR.out]; rfl, nx B0.out HB1.out⟩
            · have hx := HBB.out
              rw [hT, hC] at hx
              by_cases u0 : r.u < 0
              · have HX : Hid (badR r.t r.c r.u false = true) := by show _ = _; rw [hx]; simp [u0]
                clear hx
                go_wp2_with (with_reducible refine wpList_load_any rfl 48 (.tmp 52) rfl (ad.add (k * 5)) (by kernel_rfl) [.string r.nm, .int .i64 r.t, .int .i64 r.c, .int .i64 r.u, .slice r.A r.da.length r.k] _ HCELL.out Tryd.underlying48 (by kernel_rfl) (by kernel_rfl) ?_)
                refine (goodC _ r.t).mono ?_
                rintro e w3 ⟨rfl, rfl⟩
                rw [hT]
                go_wp2_with fail
                refine (goodC _ r.c).mono ?_
                rintro e w4 ⟨rfl, rfl⟩
                rw [hC]
                clear hT hC
                have hbad := any_hit (p := (fun r => badR r.t r.c r.u false)) HRC.out (HX.out)
                have HR := Lib.hid (HF.out hbad)
                clear hbad
                go_wp2
                go_ret
                exact ⟨by rw [HR.out]; rfl, nx B0.out HB1.out⟩
              by_cases u1 : 2147483647 < r.u
              · have HX : Hid (badR r.t r.c r.u false = true) := by show _ = _; rw [hx]; simp [u1]
                clear hx
                go_wp2_with (with_reducible refine wpList_load_any rfl 48 (.tmp 52) rfl (ad.add (k * 5)) (by kernel_rfl) [.string r.nm, .int .i64 r.t, .int .i64 r.c, .int .i64 r.u, .slice r.A r.da.length r.k] _ HCELL.out Tryd.underlying48 (by kernel_rfl) (by kernel_rfl) ?_)
                refine (goodC _ r.t).mono ?_
                rintro e w3 ⟨rfl, rfl⟩
                rw [hT]
                go_wp2_with fail
                refine (goodC _ r.c).mono ?_
                rintro e w4 ⟨rfl, rfl⟩
                rw [hC]
                clear hT hC
                have hbad := any_hit (p := (fun r => badR r.t r.c r.u false)) HRC.out (HX.out)
                have HR := Lib.hid (HF.out hbad)
                clear hbad
                go_wp2
                go_ret
                exact ⟨by rw [HR.out]; rfl, nx B0.out HB1.out⟩
              have HX : Hid (badR r.t r.c r.u false = false) := by show _ = _; rw [hx]; simp; omega
              clear hx
              go_wp2_with (with_reducible refine wpList_load_any rfl 48 (.tmp 52) rfl (ad.add (k * 5)) (by kernel_rfl) [.string r.nm, .int .i64 r.t, .int .i64 r.c, .int .i64 r.u, .slice r.A r.da.length r.k] _ HCELL.out Tryd.underlying48 (by kernel_rfl) (by kernel_rfl) ?_)
              refine (goodC _ r.t).mono ?_
              rintro e w3 ⟨rfl, rfl⟩
              rw [hT]
              go_wp2_with fail
              refine (goodC _ r.c).mono ?_
              rintro e w4 ⟨rfl, rfl⟩
              rw [hC]
              clear hT hC
              have HN := Lib.hid (all_step (p := (fun r => badR r.t r.c r.u false)) HRC.out HK.out (HX.out))
              go_wp2
              go_roundw
              case rel => exact ⟨k + 1, by go_num, by omega, HB1.out, HN.out⟩
              case measure => simp [intOf]; omega
    have HW2 : Hid (wrongI M = if (M.q.any fun r => nmBad r true) = true ∨ (M.a.any fun r => nmBad r false) = true then 9 else if (M.a.any fun r => decide (r.t = 1) && decide (r.da.length ≠ 4)) = true then 3 else if (M.a.any fun r => decide (65535 < r.da.length)) = true then 5 else 0) := by show _ = _; rw [HW.out, if_neg (by rw [hq, ha]; simp)]
    clear hq ha
    have e2 := C2.out wr HBo.out
    have e3 := C3.out wr HBo.out
    go_wp2
    have HBP := Lib.hid HBo.out
    clear HBo
    go_loopw [85] (fun iv wr => Hid (Below W.heap.size W wr) ∧ (iv = .int .i64 0 ∨ (iv = .int .i64 1 ∧ (M.q.any fun r => nmBad r true) = false) ∨ (iv = .int .i64 2 ∧ (M.q.any fun r => nmBad r true) = false ∧ (M.a.any fun r => nmBad r false) = false))) (fun iv _ => 2 - (intOf iv).toNat)
    case atStart => exact ⟨HBP.out, .inl rfl⟩
    case round =>
      obtain ⟨HBo, hcase⟩ := hrel
      clear e2 e3
      rcases hcase with rfl | ⟨rfl, hq⟩ | ⟨rfl, hq, ha⟩
      · have hix : ∀ w : World, (Instr.index 116 (.agg #[.slice M.Q M.q.length M.n, .slice M.A M.a.length M.m]) (.int .i64 0)).run Tryd.prog w = .ok (.slice M.Q M.q.length M.n) w := fun w => run_index_arr Tryd.underlying116 (fun w => by kernel_rfl) (fun w => by kernel_rfl) _ .i64 0 (by decide) _ rfl w
        go_wp2
        go_loopw [91] (fun kv wr => ∃ k : Nat, kv = .int .i64 k ∧ k ≤ M.q.length ∧ Hid (Below W.heap.size W wr) ∧ Hid (∀ (j : Nat) (r : Rc), M.q[j]? = some r → j < k → (fun r => nmBad r true) r = false)) (fun kv _ => M.q.length - (intOf kv).toNat)
        case atStart => exact ⟨0, rfl, by omega, HBo.out, fun j r _ hk => by omega⟩
        case round =>
          obtain ⟨k, rfl, hk, HB, HK⟩ := hrel
          by_cases hlt : k < M.q.length
          rotate_left
          · have hE := any_none (l := M.q) (p := (fun r => nmBad r true)) (fun j r hr => HK.out j r hr (by have := (List.getElem?_eq_some_iff.1 hr).1; omega))
            have HE := Lib.hid hE
            clear hE
            have e2 := C2.out wr HB.out
            have e3 := C3.out wr HB.out
            go_wp2
            go_roundw
            case rel => exact ⟨HB.out, .inr (.inl ⟨rfl, HE.out⟩)⟩
            case measure => simp [intOf]
          · have HF : Hid ((M.q.any fun r => nmBad r true) = true → wrongI M = 9) := fun h => by rw [HW2.out, if_pos (.inl h)]
            obtain ⟨r, hr⟩ : ∃ r, M.q[k]? = some r := ⟨_, List.getElem?_eq_getElem hlt⟩
            obtain ⟨ad, hAd, hadb, hcell⟩ := rows_rc (HM.out.nx HB.out).q hr
            rw [hAd]
            have HCELL : Hid (∀ j u, ([.string r.nm, .int .i64 r.t, .int .i64 r.c, .int .i64 r.u, .slice r.A r.da.length r.k] : List Value)[j]? = some u → wr.cell? ((ad.add (k * 5)).add j) = some u) := hcell
            have HRC := Lib.hid hr
            have HB1 : Hid (Below W.heap.size W (wr.alloc (.cells #[.string r.nm, .int .i64 r.t, .int .i64 r.c, .int .i64 r.u, .slice r.A r.da.length r.k] 48))) := al HB.out _
            have k1 : (k : Int) < M.q.length := by omega
            have k0 : (0 : Int) ≤ k := by omega
            clear hcell hr hadb
            obtain ⟨hby, hdk, hd3, hn3⟩ := (HM.out.nx HB.out).qr r (List.mem_of_getElem? HRC.out)
            have HBY := Lib.hid hby
            have XR := Lib.hid (Blk.new wr 48 #[.string r.nm, .int .i64 r.t, .int .i64 r.c, .int .i64 r.u, .slice r.A r.da.length r.k])
            have HWR := Lib.hid (al (rf wr) (.cells #[.string r.nm, .int .i64 r.t, .int .i64 r.c, .int .i64 r.u, .slice r.A r.da.length r.k] 48))
            clear hby hdk
            go_wp2_with (with_reducible refine wpList_load_any rfl 48 (.tmp 93) rfl (ad.add (k * 5)) (by kernel_rfl) [.string r.nm, .int .i64 r.t, .int .i64 r.c, .int .i64 r.u, .slice r.A r.da.length r.k] _ HCELL.out Tryd.underlying48 (by kernel_rfl) (by kernel_rfl) ?_)
            refine (labelsC r.nm _ (by omega) (HL0.out.nx HB1.out)).mono ?_
            rintro e w3 (⟨hN, v, rfl, _, b3⟩ | ⟨hN, rfl, b3⟩)
            rotate_left
            · have HX : Hid (nmBad r true = true) := by show _ = _; unfold nmBad; rw [hN]; rfl
              have HB3 := Lib.hid (nx HB1.out b3)
              have x1 : w3.cell? ⟨wr.heap.size, 1, none⟩ = some (.int .i64 r.t) := (XR.out.nx b3).cell 1
              clear hN b3
              have hbad := any_hit (p := (fun r => nmBad r true)) HRC.out (HX.out)
              have HR := Lib.hid (HF.out hbad)
              clear hbad
              go_wp2
              go_ret
              exact ⟨by rw [HR.out]; rfl, nx B0.out HB3.out⟩
            · have HNN := Lib.hid hN
              have HB3 := Lib.hid (nx HB1.out b3)
              have x1 : w3.cell? ⟨wr.heap.size, 1, none⟩ = some (.int .i64 r.t) := (XR.out.nx b3).cell 1
              have x4 : w3.cell? ⟨wr.heap.size, 4, none⟩ = some (.slice r.A r.da.length r.k) := (XR.out.nx b3).cell 4
              have hcv := convStr w3 r.A r.da r.da.length r.k (HBY.out.nx (nx HWR.out b3)) rfl
              clear hN b3
              have HX : Hid (nmBad r true = false) := by show _ = _; unfold nmBad; rw [HNN.out]; rfl
              clear hcv x4 x1
              have HN := Lib.hid (all_step (p := (fun r => nmBad r true)) HRC.out HK.out (HX.out))
              go_wp2
              go_roundw
              case rel => exact ⟨k + 1, by go_num, by omega, HB3.out, HN.out⟩
              case measure => simp [intOf]; omega
      · have hix : ∀ w : World, (Instr.index 116 (.agg #[.slice M.Q M.q.length M.n, .slice M.A M.a.length M.m]) (.int .i64 1)).run Tryd.prog w = .ok (.slice M.A M.a.length M.m) w := fun w => run_index_arr Tryd.underlying116 (fun w => by kernel_rfl) (fun w => by kernel_rfl) _ .i64 1 (by decide) _ rfl w
        go_wp2
        go_loopw [91] (fun kv wr => ∃ k : Nat, kv = .int .i64 k ∧ k ≤ M.a.length ∧ Hid (Below W.heap.size W wr) ∧ Hid (∀ (j : Nat) (r : Rc), M.a[j]? = some r → j < k → (fun r => nmBad r false) r = false)) (fun kv _ => M.a.length - (intOf kv).toNat)
        case atStart => exact ⟨0, rfl, by omega, HBo.out, fun j r _ hk => by omega⟩
        case round =>
          obtain ⟨k, rfl, hk, HB, HK⟩ := hrel
          by_cases hlt : k < M.a.length
          rotate_left
          · have hE := any_none (l := M.a) (p := (fun r => nmBad r false)) (fun j r hr => HK.out j r hr (by have := (List.getElem?_eq_some_iff.1 hr).1; omega))
            have HE := Lib.hid hE
            clear hE
            have e2 := C2.out wr HB.out
            have e3 := C3.out wr HB.out
            go_wp2
            go_roundw
            case rel => exact ⟨HB.out, .inr (.inr ⟨rfl, hq, HE.out⟩)⟩
            case measure => simp [intOf]
          · have HF : Hid ((M.a.any fun r => nmBad r false) = true → wrongI M = 9) := fun h => by rw [HW2.out, if_pos (.inr h)]
            obtain ⟨r, hr⟩ : ∃ r, M.a[k]? = some r := ⟨_, List.getElem?_eq_getElem hlt⟩
            obtain ⟨ad, hAd, hadb, hcell⟩ := rows_rc (HM.out.nx HB.out).a hr
            rw [hAd]
            have HCELL : Hid (∀ j u, ([.string r.nm, .int .i64 r.t, .int .i64 r.c, .int .i64 r.u, .slice r.A r.da.length r.k] : List Value)[j]? = some u → wr.cell? ((ad.add (k * 5)).add j) = some u) := hcell
            have HRC := Lib.hid hr
            have HB1 : Hid (Below W.heap.size W (wr.alloc (.cells #[.string r.nm, .int .i64 r.t, .int .i64 r.c, .int .i64 r.u, .slice r.A r.da.length r.k] 48))) := al HB.out _
            have k1 : (k : Int) < M.a.length := by omega
            have k0 : (0 : Int) ≤ k := by omega
            clear hcell hr hadb
            obtain ⟨hby, hdk, hd3, hn3⟩ := (HM.out.nx HB.out).ar r (List.mem_of_getElem? HRC.out)
            have HBY := Lib.hid hby
            have XR := Lib.hid (Blk.new wr 48 #[.string r.nm, .int .i64 r.t, .int .i64 r.c, .int .i64 r.u, .slice r.A r.da.length r.k])
            have HWR := Lib.hid (al (rf wr) (.cells #[.string r.nm, .int .i64 r.t, .int .i64 r.c, .int .i64 r.u, .slice r.A r.da.length r.k] 48))
            clear hby hdk
            go_wp2_with (with_reducible refine wpList_load_any rfl 48 (.tmp 93) rfl (ad.add (k * 5)) (by kernel_rfl) [.string r.nm, .int .i64 r.t, .int .i64 r.c, .int .i64 r.u, .slice r.A r.da.length r.k] _ HCELL.out Tryd.underlying48 (by kernel_rfl) (by kernel_rfl) ?_)
            refine (labelsC r.nm _ (by omega) (HL0.out.nx HB1.out)).mono ?_
            rintro e w3 (⟨hN, v, rfl, _, b3⟩ | ⟨hN, rfl, b3⟩)
            rotate_left
            · have HX : Hid (nmBad r false = true) := by show _ = _; unfold nmBad; rw [hN]; rfl
              have HB3 := Lib.hid (nx HB1.out b3)
              have x1 : w3.cell? ⟨wr.heap.size, 1, none⟩ = some (.int .i64 r.t) := (XR.out.nx b3).cell 1
              clear hN b3
              by_cases t5 : r.t = 5
              · have r5 : ((r.t : Int) == 5) = true := by rw [beq_iff_eq]; exact t5
                clear t5
                have hbad := any_hit (p := (fun r => nmBad r false)) HRC.out (HX.out)
                have HR := Lib.hid (HF.out hbad)
                clear hbad
                go_wp2
                go_ret
                exact ⟨by rw [HR.out]; rfl, nx B0.out HB3.out⟩
              · have r5 : ((r.t : Int) == 5) = false := by rw [beq_eq_false_iff_ne]; exact t5
                clear t5
                have hbad := any_hit (p := (fun r => nmBad r false)) HRC.out (HX.out)
                have HR := Lib.hid (HF.out hbad)
                clear hbad
                go_wp2
                go_ret
                exact ⟨by rw [HR.out]; rfl, nx B0.out HB3.out⟩
            · have HNN := Lib.hid hN
              have HB3 := Lib.hid (nx HB1.out b3)
              have x1 : w3.cell? ⟨wr.heap.size, 1, none⟩ = some (.int .i64 r.t) := (XR.out.nx b3).cell 1
              have x4 : w3.cell? ⟨wr.heap.size, 4, none⟩ = some (.slice r.A r.da.length r.k) := (XR.out.nx b3).cell 4
              have hcv := convStr w3 r.A r.da r.da.length r.k (HBY.out.nx (nx HWR.out b3)) rfl
              clear hN b3
              by_cases t5 : r.t = 5
              rotate_left
              · have r5 : ((r.t : Int) == 5) = false := by rw [beq_eq_false_iff_ne]; exact t5
                have HX : Hid (nmBad r false = false) := by show _ = _; unfold nmBad; rw [HNN.out]; simp [t5]
                clear t5 hcv x4
                have HN := Lib.hid (all_step (p := (fun r => nmBad r false)) HRC.out HK.out (HX.out))
                go_wp2
                go_roundw
                case rel => exact ⟨k + 1, by go_num, by omega, HB3.out, HN.out⟩
                case measure => simp [intOf]; omega
              · have r5 : ((r.t : Int) == 5) = true := by rw [beq_iff_eq]; exact t5
                have HY : Hid (nmBad r false = !isN r.da) := by show _ = _; unfold nmBad; rw [HNN.out]; simp [t5]
                clear t5
                go_wp2_with fail
                refine (labelsC ⟨r.da.toArray⟩ _ (by show r.da.toArray.size ≤ _; rw [List.size_toArray]; omega) (HL0.out.nx HB3.out)).mono ?_
                rintro e w4 (⟨hN, v4, rfl, _, b4⟩ | ⟨hN, rfl, b4⟩)
                · have h2 : isN r.da = true := by simpa using hN
                  have HX : Hid (nmBad r false = false) := by show _ = _; rw [HY.out, h2]; rfl
                  have HB4 := Lib.hid (nx HB3.out b4)
                  clear hN h2 b4 hcv x4 x1
                  have HN := Lib.hid (all_step (p := (fun r => nmBad r false)) HRC.out HK.out (HX.out))
                  go_wp2
                  go_roundw
                  case rel => exact ⟨k + 1, by go_num, by omega, HB4.out, HN.out⟩
                  case measure => simp [intOf]; omega
                · have h2 : isN r.da = false := by simpa using hN
                  have HX : Hid (nmBad r false = true) := by show _ = _; rw [HY.out, h2]; rfl
                  have HB4 := Lib.hid (nx HB3.out b4)
                  clear hN h2 b4 hcv x4 x1
                  have hbad := any_hit (p := (fun r => nmBad r false)) HRC.out (HX.out)
                  have HR := Lib.hid (HF.out hbad)
                  clear hbad
                  go_wp2
                  go_ret
                  exact ⟨by rw [HR.out]; rfl, nx B0.out HB4.out⟩
      have HW3 : Hid (wrongI M = if (M.a.any fun r => decide (r.t = 1) && decide (r.da.length ≠ 4)) = true then 3 else if (M.a.any fun r => decide (65535 < r.da.length)) = true then 5 else 0) := by show _ = _; rw [HW2.out, if_neg (by rw [hq, ha]; simp)]
      clear hq ha
      have e2 := C2.out wr HBo.out
      have e3 := C3.out wr HBo.out
      go_wp2
      have HBP2 := Lib.hid HBo.out
      clear HBo HBP
      have HBo := Lib.hid HBP2.out
      go_loopw [125] (fun kv wr => ∃ k : Nat, kv = .int .i64 k ∧ k ≤ M.a.length ∧ Hid (Below W.heap.size W wr) ∧ Hid (∀ (j : Nat) (r : Rc), M.a[j]? = some r → j < k → (fun r => decide (r.t = 1) && decide (r.da.length ≠ 4)) r = false)) (fun kv _ => M.a.length - (intOf kv).toNat)
      case atStart => exact ⟨0, rfl, by omega, HBo.out, fun j r _ hk => by omega⟩
      case round =>
        obtain ⟨k, rfl, hk, HB, HK⟩ := hrel
        by_cases hlt : k < M.a.length
        rotate_left
        · have hE := any_none (l := M.a) (p := (fun r => decide (r.t = 1) && decide (r.da.length ≠ 4))) (fun j r hr => HK.out j r hr (by have := (List.getElem?_eq_some_iff.1 hr).1; omega))
          have HE := Lib.hid hE
          clear hE
          have e2 := C2.out wr HB.out
          have e3 := C3.out wr HB.out
          have HW4 : Hid (wrongI M = if (M.a.any fun r => decide (65535 < r.da.length)) = true then 5 else 0) := by show _ = _; rw [HW3.out, if_neg (by rw [HE.out]; simp)]
          have HBX := Lib.hid HB.out
          clear HK HBP2 HBo HE HB
          have HBo := Lib.hid HBX.out
          go_wp2
          clear HBX hlt hk
          go_loopw [142] (fun kv wr => ∃ k : Nat, kv = .int .i64 k ∧ k ≤ M.a.length ∧ Hid (Below W.heap.size W wr) ∧ Hid (∀ (j : Nat) (r : Rc), M.a[j]? = some r → j < k → (fun r => decide (65535 < r.da.length)) r = false)) (fun kv _ => M.a.length - (intOf kv).toNat)
          case atStart => exact ⟨0, rfl, by omega, HBo.out, fun j r _ hk => by omega⟩
          case round =>
            obtain ⟨k, rfl, hk, HB, HK⟩ := hrel
            by_cases hlt : k < M.a.length
            rotate_left
            · have hE := any_none (l := M.a) (p := (fun r => decide (65535 < r.da.length))) (fun j r hr => HK.out j r hr (by have := (List.getElem?_eq_some_iff.1 hr).1; omega))
              have HE := Lib.hid hE
              clear hE
              have e2 := C2.out wr HB.out
              have e3 := C3.out wr HB.out
              have HR : Hid (wrongI M = 0) := by show _ = _; rw [HW4.out, if_neg (by rw [HE.out]; simp)]
              go_wp2
              go_ret
              exact ⟨by rw [HR.out]; rfl, nx B0.out HB.out⟩
            · skip
              obtain ⟨r, hr⟩ : ∃ r, M.a[k]? = some r := ⟨_, List.getElem?_eq_getElem hlt⟩
              obtain ⟨ad, hAd, hadb, hcell⟩ := rows_rc (HM.out.nx HB.out).a hr
              rw [hAd]
              have HCELL : Hid (∀ j u, ([.string r.nm, .int .i64 r.t, .int .i64 r.c, .int .i64 r.u, .slice r.A r.da.length r.k] : List Value)[j]? = some u → wr.cell? ((ad.add (k * 5)).add j) = some u) := hcell
              have HRC := Lib.hid hr
              have HB1 : Hid (Below W.heap.size W (wr.alloc (.cells #[.string r.nm, .int .i64 r.t, .int .i64 r.c, .int .i64 r.u, .slice r.A r.da.length r.k] 48))) := al HB.out _
              have k1 : (k : Int) < M.a.length := by omega
              have k0 : (0 : Int) ≤ k := by omega
              clear hcell hr hadb
              have hd3 := ((HM.out.nx HB.out).ar r (List.mem_of_getElem? HRC.out)).2.2.1
              have i6 : ¬ (65535 : Int) < r.da.length := by omega
              have HX : Hid (decide (65535 < r.da.length) = false) := by show _ = _; rw [decide_eq_false_iff_not]; omega
              go_wp2_with (with_reducible refine wpList_load_any rfl 48 (.tmp 144) rfl (ad.add (k * 5)) (by kernel_rfl) [.string r.nm, .int .i64 r.t, .int .i64 r.c, .int .i64 r.u, .slice r.A r.da.length r.k] _ HCELL.out Tryd.underlying48 (by kernel_rfl) (by kernel_rfl) ?_)
              have HN := Lib.hid (all_step (p := (fun r => decide (65535 < r.da.length))) HRC.out HK.out HX.out)
              go_roundw
              case rel => exact ⟨k + 1, by go_num, by omega, HB1.out, HN.out⟩
              case measure => simp [intOf]; omega
        · have HF : Hid ((M.a.any (fun r => decide (r.t = 1) && decide (r.da.length ≠ 4))) = true → wrongI M = 3) := fun h => by rw [HW3.out, if_pos h]
          obtain ⟨r, hr⟩ : ∃ r, M.a[k]? = some r := ⟨_, List.getElem?_eq_getElem hlt⟩
          obtain ⟨ad, hAd, hadb, hcell⟩ := rows_rc (HM.out.nx HB.out).a hr
          rw [hAd]
          have HCELL : Hid (∀ j u, ([.string r.nm, .int .i64 r.t, .int .i64 r.c, .int .i64 r.u, .slice r.A r.da.length r.k] : List Value)[j]? = some u → wr.cell? ((ad.add (k * 5)).add j) = some u) := hcell
          have HRC := Lib.hid hr
          have HB1 : Hid (Below W.heap.size W (wr.alloc (.cells #[.string r.nm, .int .i64 r.t, .int .i64 r.c, .int .i64 r.u, .slice r.A r.da.length r.k] 48))) := al HB.out _
          have k1 : (k : Int) < M.a.length := by omega
          have k0 : (0 : Int) ≤ k := by omega
          clear hcell hr hadb
          by_cases t1 : r.t = 1
          · have r1 : ((r.t : Int) == 1) = true := by rw [beq_iff_eq]; exact t1
            by_cases d4 : r.da.length = 4
            · have r4 : (((r.da.length : Nat) : Int) != 4) = false := by rw [bne_eq_false_iff_eq]; omega
              have HX : Hid ((decide (r.t = 1) && decide (r.da.length ≠ 4)) = false) := by show _ = _; simp [d4]
              have HN := Lib.hid (all_step (p := (fun r => decide (r.t = 1) && decide (r.da.length ≠ 4))) HRC.out HK.out HX.out)
              clear t1 d4
              go_wp2_with (with_reducible refine wpList_load_any rfl 48 (.tmp 127) rfl (ad.add (k * 5)) (by kernel_rfl) [.string r.nm, .int .i64 r.t, .int .i64 r.c, .int .i64 r.u, .slice r.A r.da.length r.k] _ HCELL.out Tryd.underlying48 (by kernel_rfl) (by kernel_rfl) ?_)
              go_roundw
              case rel => exact ⟨k + 1, by go_num, by omega, HB1.out, HN.out⟩
              case measure => simp [intOf]; omega
            · have r4 : (((r.da.length : Nat) : Int) != 4) = true := by rw [bne_iff_ne]; omega
              have HX : Hid ((decide (r.t = 1) && decide (r.da.length ≠ 4)) = true) := by show _ = _; simp [t1, d4]
              have hbad := any_hit (p := (fun r => decide (r.t = 1) && decide (r.da.length ≠ 4))) HRC.out HX.out
              have HR := Lib.hid (HF.out hbad)
              clear hbad t1 d4
              go_wp2_with (with_reducible refine wpList_load_any rfl 48 (.tmp 127) rfl (ad.add (k * 5)) (by kernel_rfl) [.string r.nm, .int .i64 r.t, .int .i64 r.c, .int .i64 r.u, .slice r.A r.da.length r.k] _ HCELL.out Tryd.underlying48 (by kernel_rfl) (by kernel_rfl) ?_)
              go_ret
              exact ⟨by rw [HR.out]; rfl, nx B0.out HB1.out⟩
          · have r1 : ((r.t : Int) == 1) = false := by rw [beq_eq_false_iff_ne]; exact t1
            have HX : Hid ((decide (r.t = 1) && decide (r.da.length ≠ 4)) = false) := by show _ = _; simp [t1]
            have HN := Lib.hid (all_step (p := (fun r => decide (r.t = 1) && decide (r.da.length ≠ 4))) HRC.out HK.out HX.out)
            clear t1
            go_wp2_with (with_reducible refine wpList_load_any rfl 48 (.tmp 127) rfl (ad.add (k * 5)) (by kernel_rfl) [.string r.nm, .int .i64 r.t, .int .i64 r.c, .int .i64 r.u, .slice r.A r.da.length r.k] _ HCELL.out Tryd.underlying48 (by kernel_rfl) (by kernel_rfl) ?_)
            go_roundw
            case rel => exact ⟨k + 1, by go_num, by omega, HB1.out, HN.out⟩
            case measure => simp [intOf]; omega
end Go.Proofs.YtpfkmmmlocmakaaDoor
