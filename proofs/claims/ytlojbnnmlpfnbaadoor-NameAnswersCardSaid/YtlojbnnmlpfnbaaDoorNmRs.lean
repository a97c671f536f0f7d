/-
  Names: two rows of records of the same keys are the same to the law; so are two messages.
-/
import Derived.Test.YtlojbnnmlpfnbaaDoorNmDi
import Derived.Test.YtlojbnnmlpfnbaaDoorHelp21
set_option linter.unusedVariables false
namespace Go.Proofs.YtlojbnnmlpfnbaaDoor
open Go.RowKit

set_option maxHeartbeats 800000 in
theorem same_q (w : World) (A B : Option Addr) (l m : List UInt8) (n1 n2 c d : Nat) (ha : Bytes w A l) (hb : Bytes w B m) (hl : n1 = l.length) (hm : n2 = m.length) (h1 : l.length ≤ 1099511627776) (h2 : m.length ≤ 1099511627776) :
    Calls Tryd.prog 10 #[.slice A n1 c, .slice B n2 d] w fun e w' => e = .returned (.bool (l == m)) ∧ ∃ k, w' = w.drewN k := by
  subst hl hm
  by_cases hlen : l.length = m.length
  · have hq : ((l.length : Int) != (m.length : Int)) = false := by rw [bne_eq_false_iff_eq]; omega
    have HL := Lib.hid hlen
    have hle1 : l.length ≤ m.length := by omega
    have hle2 : m.length ≤ l.length := by omega
    clear hlen
    go_enter Tryd.func10, Tryd.ntmps10
    go_wp2
    go_loopw [5] (fun i wr => ∃ k n : Nat, k ≤ l.length ∧ i = .int .i64 k ∧ wr = w.drewN n ∧ Hid (∀ j, (h1 : j < l.length) → (h2 : j < m.length) → j < k → l[j] = m[j])) (fun i _ => l.length - (intOf i).toNat)
    case atStart => exact ⟨0, 0, by omega, rfl, rfl, fun j _ _ h => absurd h (by omega)⟩
    case round =>
      obtain ⟨k, n, hk, rfl, rfl, HK⟩ := hrel
      by_cases hlt : k < l.length
      · obtain ⟨ad, rfl, _, hc1⟩ := ha.at_ hlt
        obtain ⟨bd, rfl, _, hc2⟩ := hb.at_ (show k < m.length by omega)
        have k0 : (0 : Int) ≤ k := by omega
        have k1 : (k : Int) < l.length := by omega
        have k2 : (k : Int) < m.length := by omega
        by_cases he : l[k] = m[k]'(by omega)
        · have hb1 : ((l[k].toNat : Int) != ((m[k]'(by omega)).toNat : Int)) = false := by rw [he]; simp
          have HE := Lib.hid he; clear he
          go_wp2_with fail
          go_quiet (fail)
          go_wp2
          go_roundw
          case rel => exact ⟨k + 1, _, by omega, by go_num, rfl, fun j h1 h2 hj => by
            by_cases hj' : j < k
            · exact HK.out j h1 h2 hj'
            · obtain rfl : j = k := by omega
              exact HE.out⟩
          case measure => simp [intOf]; omega
        · have hb1 : ((l[k].toNat : Int) != ((m[k]'(by omega)).toNat : Int)) = true := by
            rw [bne_iff_ne]; intro h; exact he (UInt8.toNat_inj.1 (Int.ofNat.inj h))
          have HE := Lib.hid he; clear he
          go_wp2_with fail
          go_quiet (fail)
          go_wp2
          go_ret
          exact ⟨ret_bool (by rw [eq_comm, beq_eq_false_iff_ne]; intro h; exact HE.out (by simp [h])), _, World.drewN_drewN _ _ _⟩
      · go_wp2
        go_ret
        exact ⟨ret_bool (list_same HL.out (fun j h1 h2 => HK.out j h1 h2 (by omega))).symm, _, rfl⟩
  · have hq : ((l.length : Int) != (m.length : Int)) = true := by rw [bne_iff_ne]; omega
    have HL := Lib.hid hlen
    clear hlen
    go_enter Tryd.func10, Tryd.ntmps10
    go_wp2
    go_ret
    exact ⟨ret_bool (by rw [eq_comm, beq_eq_false_iff_ne]; intro h; exact HL.out (by rw [h])), 0, rfl⟩



structure AnyR2 (w : World) (r : Rc) : Prop where
  by_ : Bytes w r.A r.da
  dl : r.da.length ≤ 1000000
theorem key_at {L1 L2 : List Rc} (h : L1.map Rc.key = L2.map Rc.key) {k : Nat} {r : Rc} (hr : L1[k]? = some r) : ∃ A c, L2[k]? = some { r with A := A, k := c } := by
  have h1 := congrArg (fun l => l[k]?) h
  simp only [List.getElem?_map, hr, Option.map_some] at h1
  cases h2 : L2[k]? with
  | none => rw [h2] at h1; simp at h1
  | some x =>
    rw [h2] at h1
    simp only [Option.map_some, Option.some.injEq] at h1
    unfold Rc.key at h1
    injection h1 with e1 h1; injection h1 with e2 h1; injection h1 with e3 h1; injection h1 with e4 e5
    exact ⟨x.A, x.k, by rw [e1, e2, e3, e4, e5]⟩
set_option maxRecDepth 100000 in
set_option maxHeartbeats 6400000 in
theorem recsC (w : World) (X Y : Option Addr) (cx cy : Nat) (L1 L2 : List Rc) (hx : RowsAt w w.heap.size 5 X L1.length (L1.map Rc.cs)) (hy : RowsAt w w.heap.size 5 Y L2.length (L2.map Rc.cs)) (h1 : ∀ r ∈ L1, AnyR2 w r) (h2 : ∀ r ∈ L2, AnyR2 w r)
    (hk : L1.map Rc.key = L2.map Rc.key) (hl : L1.length ≤ 1000000) :
    Calls Tryd.prog 44 #[.slice X L1.length cx, .slice Y L2.length cy] w fun e w' => e = .returned (.bool true) ∧ ∃ n, w' = w.drewN n := by
  have hlen : L1.length = L2.length := by have := congrArg List.length hk; simpa using this
  have hq : ((L1.length : Int) != (L2.length : Int)) = false := by rw [bne_eq_false_iff_eq]; omega
  have HX := Lib.hid hx
  have HY := Lib.hid hy
  have H1 := Lib.hid h1
  have H2 := Lib.hid h2
  have HK := Lib.hid hk
  have HLEN := Lib.hid hlen
  obtain ⟨n1, hn1⟩ : ∃ n1, L1.length = n1 := ⟨_, rfl⟩
  obtain ⟨n2, hn2⟩ : ∃ n2, L2.length = n2 := ⟨_, rfl⟩
  have HN1 := Lib.hid hn1
  have HN2 := Lib.hid hn2
  rw [hn1, hn2] at hq ⊢
  have hl1 : n1 ≤ 1000000 := by omega
  clear hx hy h1 h2 hk hlen hn1 hn2 hl
  go_enter Tryd.func44, Tryd.ntmps44
  go_wp2
  go_loopw [5] (fun kv wr => ∃ k n : Nat, kv = .int .i64 k ∧ k ≤ n1 ∧ wr = w.drewN n) (fun kv _ => n1 - (intOf kv).toNat)
  case atStart => exact ⟨0, 0, rfl, by omega, rfl⟩
  case round =>
    obtain ⟨k, n, rfl, hk, hwr⟩ := hrel
    have HWR := Lib.hid hwr
    by_cases hlt : k < n1
    · obtain ⟨r, hr⟩ : ∃ r, L1[k]? = some r := ⟨_, List.getElem?_eq_getElem (by have := HN1.out; omega)⟩
      obtain ⟨A2, c2, hr2⟩ := key_at HK.out hr
      obtain ⟨ad, hAd, _, hc1⟩ := rows_rc HX.out hr
      obtain ⟨bd, hBd, _, hc2⟩ := rows_rc HY.out hr2
      have b1 := H1.out r (List.mem_of_getElem? hr)
      have b2 := H2.out _ (List.mem_of_getElem? hr2)
      have B1 : Hid (∀ m, Bytes (wr.drewN m) r.A r.da) := fun m => by rw [hwr, World.drewN_drewN]; exact Reads.drewN b1.by_ _
      have B2 : Hid (∀ m, Bytes (wr.drewN m) A2 r.da) := fun m => by rw [hwr, World.drewN_drewN]; exact Reads.drewN (show Bytes w A2 r.da from b2.by_) _
      have hdl := b1.dl
      have x0 : wr.cell? (ad.add (k * 5)) = some (.string r.nm) := by rw [hwr]; have := hc1 0 _ rfl; simpa [Addr.add] using this
      have x1 : wr.cell? ⟨(ad.add (k * 5)).block, (ad.add (k * 5)).off + 1, none⟩ = some (.int .i64 r.t) := by rw [hwr]; exact hc1 1 _ rfl
      have x2 : wr.cell? ⟨(ad.add (k * 5)).block, (ad.add (k * 5)).off + 2, none⟩ = some (.int .i64 r.c) := by rw [hwr]; exact hc1 2 _ rfl
      have x3 : wr.cell? ⟨(ad.add (k * 5)).block, (ad.add (k * 5)).off + 3, none⟩ = some (.int .i64 r.u) := by rw [hwr]; exact hc1 3 _ rfl
      have x4 : wr.cell? ⟨(ad.add (k * 5)).block, (ad.add (k * 5)).off + 4, none⟩ = some (.slice r.A r.da.length r.k) := by rw [hwr]; exact hc1 4 _ rfl
      have z0 : wr.cell? (bd.add (k * 5)) = some (.string r.nm) := by rw [hwr]; have := hc2 0 _ rfl; simpa [Addr.add] using this
      have z1 : wr.cell? ⟨(bd.add (k * 5)).block, (bd.add (k * 5)).off + 1, none⟩ = some (.int .i64 r.t) := by rw [hwr]; exact hc2 1 _ rfl
      have z2 : wr.cell? ⟨(bd.add (k * 5)).block, (bd.add (k * 5)).off + 2, none⟩ = some (.int .i64 r.c) := by rw [hwr]; exact hc2 2 _ rfl
      have z3 : wr.cell? ⟨(bd.add (k * 5)).block, (bd.add (k * 5)).off + 3, none⟩ = some (.int .i64 r.u) := by rw [hwr]; exact hc2 3 _ rfl
      have z4 : wr.cell? ⟨(bd.add (k * 5)).block, (bd.add (k * 5)).off + 4, none⟩ = some (.slice A2 r.da.length c2) := by rw [hwr]; exact hc2 4 _ rfl
      have k0 : (0 : Int) ≤ k := by omega
      have k1 : (k : Int) < n1 := by omega
      have k2 : (k : Int) < n2 := by have := HN1.out; have := HN2.out; have := HLEN.out; omega
      have ht : (r.t != r.t) = false := by simp
      have hc : (r.c != r.c) = false := by simp
      have hu : (r.u != r.u) = false := by simp
      have HDD : Hid ((r.da == r.da) = true) := beq_self_eq_true _
      subst hAd hBd
      clear hr hr2 hc1 hc2 b1 b2 hwr
      go_wp2
      go_quiet ((go_at_call 10; exact Calls.quiet_of ((same_q _ r.A A2 r.da r.da r.da.length r.da.length r.k c2 (B1.out _) (B2.out _) rfl rfl (by omega) (by omega)).mono fun e w' h => ⟨by rw [h.1, HDD.out], h.2⟩)))
      go_wp2
      go_roundw
      case rel => exact ⟨k + 1, n + nq, by go_num, by omega, by rw [HWR.out, World.drewN_drewN]⟩
      case measure => simp [intOf]; omega
    · go_wp2
      go_ret
      exact ⟨rfl, n, rfl⟩
theorem below_dn {w w' : World} {n : Nat} (h : w' = w.drewN n) : Below w.heap.size w w' := by rw [h]; exact dn (rf w) n
theorem anyR2 {w : World} {l : List Rc} (h : ∀ r ∈ l, RcOk w r) : ∀ r ∈ l, AnyR2 w r := fun r hr => ⟨(h r hr).1, by have := (h r hr).2.2.1; omega⟩
set_option maxRecDepth 100000 in
set_option maxHeartbeats 3200000 in
theorem msgC (w : World) (M1 M2 : Ms) (h1 : IsM w M1) (h2 : IsM w M2) (hi : M1.id = M2.id) (hf : M1.fl = M2.fl) (hq : M1.q.map Rc.key = M2.q.map Rc.key) (ha : M1.a.map Rc.key = M2.a.map Rc.key) :
    Calls Tryd.prog 17 #[.agg #[.int .i64 M1.id, .int .i64 M1.fl, .slice M1.Q M1.q.length M1.n, .slice M1.A M1.a.length M1.m], .agg #[.int .i64 M2.id, .int .i64 M2.fl, .slice M2.Q M2.q.length M2.n, .slice M2.A M2.a.length M2.m]] w fun e w' => e = .returned (.bool true) ∧ Below w.heap.size w w' := by
  have hql := h1.ql
  have hal := h1.al
  have H1 := Lib.hid h1
  have H2 := Lib.hid h2
  have HQ := Lib.hid hq
  have HA := Lib.hid ha
  have X0 := Lib.hid (Blk.new w 36 #[.int .i64 M1.id, .int .i64 M1.fl, .slice M1.Q M1.q.length M1.n, .slice M1.A M1.a.length M1.m])
  have B0 := Lib.hid (al (rf w) (.cells #[.int .i64 M1.id, .int .i64 M1.fl, .slice M1.Q M1.q.length M1.n, .slice M1.A M1.a.length M1.m] 36))
  have hy1 := Blk.new (w.alloc (.cells #[.int .i64 M1.id, .int .i64 M1.fl, .slice M1.Q M1.q.length M1.n, .slice M1.A M1.a.length M1.m] 36)) 36 #[.int .i64 M2.id, .int .i64 M2.fl, .slice M2.Q M2.q.length M2.n, .slice M2.A M2.a.length M2.m]
  rw [show (w.alloc (.cells #[.int .i64 M1.id, .int .i64 M1.fl, .slice M1.Q M1.q.length M1.n, .slice M1.A M1.a.length M1.m] 36)).heap.size = w.heap.size + 1 by simp] at hy1
  have Y1 := Lib.hid hy1
  clear hy1
  have X1 := Lib.hid (X0.out.alloc (.cells #[.int .i64 M2.id, .int .i64 M2.fl, .slice M2.Q M2.q.length M2.n, .slice M2.A M2.a.length M2.m] 36))
  have B1 := Lib.hid (al B0.out (.cells #[.int .i64 M2.id, .int .i64 M2.fl, .slice M2.Q M2.q.length M2.n, .slice M2.A M2.a.length M2.m] 36))
  have e1 : ((M1.id : Int) == M2.id) = true := by rw [beq_iff_eq]; exact hi
  have e2 : ((M1.fl : Int) == M2.fl) = true := by rw [beq_iff_eq]; exact hf
  clear h1 h2 hq ha hi hf X0 B0
  have I1 := Lib.hid (H1.out.nx B1.out)
  have I2 := Lib.hid (H2.out.nx B1.out)
  go_enter Tryd.func17, Tryd.ntmps17
  go_wp2_with fail
  refine (recsC _ M1.Q M2.Q M1.n M2.n M1.q M2.q I1.out.q I2.out.q (anyR2 I1.out.qr) (anyR2 I2.out.qr) HQ.out (by omega)).mono ?_
  rintro e w2 ⟨rfl, n1, hw2⟩
  have b2 := below_dn hw2
  have I3 := Lib.hid (I1.out.nx b2)
  have I4 := Lib.hid (I2.out.nx b2)
  have B2 := Lib.hid (nx B1.out b2)
  have X2 := Lib.hid (X1.out.nx b2)
  have Y2 := Lib.hid (Y1.out.nx b2)
  have y1 := X2.out.cell 3
  have y2 := Y2.out.cell 3
  simp only [List.getElem?_toArray, List.getElem?_cons_zero, List.getElem?_cons_succ] at y1 y2
  clear hw2 b2
  go_wp2_with fail
  refine (recsC _ M1.A M2.A M1.m M2.m M1.a M2.a I3.out.a I4.out.a (anyR2 I3.out.ar) (anyR2 I4.out.ar) HA.out (by omega)).mono ?_
  rintro e w3 ⟨rfl, n2, hw3⟩
  have b3 := below_dn hw3
  have B3 := Lib.hid (nx B2.out b3)
  clear hw3 b3 y1 y2
  go_wp2
  go_ret
  exact ⟨rfl, B3.out⟩
end Go.Proofs.YtlojbnnmlpfnbaaDoor
