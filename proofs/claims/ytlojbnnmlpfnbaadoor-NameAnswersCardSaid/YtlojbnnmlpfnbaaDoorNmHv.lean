/-
  Names: the law's heavy: what is not heavy is a message of few and short records. Printed by gen_nmhv.py.
-/
import Derived.Test.YtlojbnnmlpfnbaaDoorNmOm
import Derived.Test.YtlojbnnmlpfnbaaDoorNmEr
import Derived.Test.YtlojbnnmlpfnbaaDoorNmKn
import Derived.Test.YtlojbnnmlpfnbaaDoorHelp21
set_option linter.unusedVariables false
namespace Go.Proofs.YtlojbnnmlpfnbaaDoor
open Go.RowKit

def HvP (M : Ms) (w : World) (e : Ending) (w' : World) : Prop := ∃ b, e = .returned (.bool b) ∧ Below w.heap.size w w' ∧ (b = false → IsM w M)
set_option maxRecDepth 100000 in
set_option maxHeartbeats 12800000 in
theorem heavyC (w : World) (M : Ms) (h : AnyM w M) : Calls Tryd.prog 13 #[.agg #[.int .i64 M.id, .int .i64 M.fl, .slice M.Q M.q.length M.n, .slice M.A M.a.length M.m]] w (HvP M w) := by
  obtain ⟨Qa, hQa⟩ : ∃ Qa, M.Q = Qa := ⟨_, rfl⟩
  obtain ⟨Aa, hAa⟩ : ∃ Aa, M.A = Aa := ⟨_, rfl⟩
  have HQA := Lib.hid hQa
  have HAA := Lib.hid hAa
  rw [hQa, hAa]
  clear hQa hAa
  have X0 := Lib.hid (Blk.new w 36 #[.int .i64 M.id, .int .i64 M.fl, .slice Qa M.q.length M.n, .slice Aa M.a.length M.m])
  have B0 := Lib.hid (al (rf w) (.cells #[.int .i64 M.id, .int .i64 M.fl, .slice Qa M.q.length M.n, .slice Aa M.a.length M.m] 36))
  have HM := Lib.hid (h.nx B0.out)
  have HN := Lib.hid h
  have hql := h.ql
  have hal := h.al
  have c2 : (w.alloc (.cells #[.int .i64 M.id, .int .i64 M.fl, .slice Qa M.q.length M.n, .slice Aa M.a.length M.m] 36)).cell? ⟨w.heap.size, 2, none⟩ = some (.slice Qa M.q.length M.n) := X0.out.cell 2
  have c3 : (w.alloc (.cells #[.int .i64 M.id, .int .i64 M.fl, .slice Qa M.q.length M.n, .slice Aa M.a.length M.m] 36)).cell? ⟨w.heap.size, 3, none⟩ = some (.slice Aa M.a.length M.m) := X0.out.cell 3
  have hg0 := X0.out.lt
  clear h
  go_enter Tryd.func13, Tryd.ntmps13
  go_wp2
  clear c2 c3
  generalize hWW : w.alloc (.cells #[.int .i64 M.id, .int .i64 M.fl, .slice Qa M.q.length M.n, .slice Aa M.a.length M.m] 36) = W at X0 B0 HM hg0 ⊢
  clear hWW
  have C2 : Hid (∀ wr, Below W.heap.size W wr → wr.cell? ⟨w.heap.size, 2, none⟩ = some (.slice Qa M.q.length M.n)) := fun wr k => (X0.out.nx k).cell 2
  have C3 : Hid (∀ wr, Below W.heap.size W wr → wr.cell? ⟨w.heap.size, 3, none⟩ = some (.slice Aa M.a.length M.m)) := fun wr k => (X0.out.nx k).cell 3
  go_loopw [3, 4] (fun nv kv wr => ∃ (k n : Nat), nv = .int .i64 n ∧ kv = .int .i64 k ∧ k ≤ M.q.length ∧ n ≤ 562949953421312 ∧ Hid (Below W.heap.size W wr) ∧ Hid (M.q.length + M.a.length ≤ n) ∧ Hid (∀ (j : Nat) (r : Rc), M.q[j]? = some r → j < k → r.nm.size + r.da.length ≤ n)) (fun _ kv _ => M.q.length - (intOf kv).toNat)
  case atStart => exact ⟨0, M.q.length + M.a.length, by go_num, rfl, by omega, by omega, rf W, by show _ ≤ _; omega, fun j r _ hk => by omega⟩
  case round =>
    obtain ⟨k, n, rfl, rfl, hk, hn5, HB, HN0, HK⟩ := hrel
    by_cases hlt : k < M.q.length ∧ n ≤ 3000
    · obtain ⟨hlt, hn3⟩ := hlt
      obtain ⟨r, hr⟩ : ∃ r, M.q[k]? = some r := ⟨_, List.getElem?_eq_getElem hlt⟩
      obtain ⟨ad, hAd, hadb, hcell⟩ := rows_rc (HM.out.nx HB.out).q hr
      rw [HQA.out] at hAd
      subst hAd
      have HCELL : Hid (∀ j u, ([.string r.nm, .int .i64 r.t, .int .i64 r.c, .int .i64 r.u, .slice r.A r.da.length r.k] : List Value)[j]? = some u → wr.cell? ((ad.add (k * 5)).add j) = some u) := hcell
      have HRC := Lib.hid hr
      obtain ⟨_, _, hd7, hn7⟩ := (HM.out.nx HB.out).qr r (List.mem_of_getElem? hr)
      have y0 : wr.cell? (ad.add (k * 5)) = some (.string r.nm) := by have := HCELL.out 0 _ rfl; simpa [Addr.add] using this
      have y4 : wr.cell? ⟨(ad.add (k * 5)).block, (ad.add (k * 5)).off + 4, none⟩ = some (.slice r.A r.da.length r.k) := HCELL.out 4 _ rfl
      have k1 : (k : Int) < M.q.length := by omega
      have k0 : (0 : Int) ≤ k := by omega
      have n9 : (n : Int) ≤ 3000 := by omega
      have e2 := C2.out wr HB.out
      have e3 := C3.out wr HB.out
      have HB2 : Hid (∀ m, Below W.heap.size W (wr.drewN m)) := fun m => dn HB.out m
      have s1 : IntKind.i64.wrap ((n : Int) + (r.nm.size : Nat)) = (n : Int) + (r.nm.size : Nat) := IntWalk.i64_in _ (by omega)
      have s2 : IntKind.i64.wrap ((n : Int) + (r.nm.size : Nat) + (r.da.length : Nat)) = (n : Int) + (r.nm.size : Nat) + (r.da.length : Nat) := IntWalk.i64_in _ (by omega)
      have HK2 : Hid (∀ (j : Nat) (q : Rc), M.q[j]? = some q → j < k + 1 → q.nm.size + q.da.length ≤ n + r.nm.size + r.da.length) := by
        intro j q hq hj
        by_cases hjk : j < k
        · have := HK.out j q hq hjk; omega
        · have e : j = k := by omega
          subst e
          have e : q = r := Option.some.inj (hq.symm.trans HRC.out)
          subst e
          omega
      have HN2 : Hid (M.q.length + M.a.length ≤ n + r.nm.size + r.da.length) := by show _ ≤ _; have h : M.q.length + M.a.length ≤ n := HN0.out; omega
      clear hcell hr hadb
      go_wp2
      go_quiet (fail)
      go_wp2
      go_roundw
      case rel =>
        first
          | exact ⟨k + 1, n + r.nm.size + r.da.length, by go_num, by go_num, by omega, by omega, HB2.out _, HN2.out, HK2.out⟩
          | ((repeat apply Exists.intro); refine ⟨?_, rfl⟩; exact ⟨k + 1, n + r.nm.size + r.da.length, by go_num, by go_num, by omega, by omega, HB2.out _, HN2.out, HK2.out⟩)
      case measure => simp [intOf]; omega
    · by_cases hlt2 : k < M.q.length
      · have n4 : ¬ (n : Int) ≤ 3000 := by omega
        have HQ : Hid (n ≤ 3000 → ∀ r ∈ M.q, r.nm.size + r.da.length ≤ n) := by
          intro h3 r hr
          obtain ⟨j, hj⟩ := List.getElem?_of_mem hr
          exact HK.out j r hj (by have := (List.getElem?_eq_some_iff.1 hj).1; omega)
        have e2 := C2.out wr HB.out
        have e3 := C3.out wr HB.out
        have HBx := Lib.hid HB.out
        have HNq := Lib.hid HN0.out
        go_wp2
        clear e2 e3 HB HK hlt
        obtain ⟨n1, hn1⟩ : ∃ n1, n1 = n := ⟨_, rfl⟩
        have HN1 := Lib.hid hn1
        rw [← hn1] at HQ HN0 HNq
        clear hn1
        go_loopw [3, 5] (fun nv kv wr => ∃ (k n : Nat), nv = .int .i64 n ∧ kv = .int .i64 k ∧ k ≤ M.a.length ∧ n ≤ 562949953421312 ∧ Hid (Below W.heap.size W wr) ∧ Hid (n1 ≤ n) ∧ Hid (∀ (j : Nat) (r : Rc), M.a[j]? = some r → j < k → r.nm.size + r.da.length ≤ n)) (fun _ kv _ => M.a.length - (intOf kv).toNat)
        case atStart => exact ⟨0, n, by go_num, rfl, by omega, by omega, HBx.out, by show _ ≤ _; rw [HN1.out]; exact Nat.le_refl _, fun j r _ hk => by omega⟩
        case round =>
          obtain ⟨k, n, rfl, rfl, hk, hn5, HB, HN0, HK⟩ := hrel
          by_cases hlt : k < M.a.length ∧ n ≤ 3000
          · skip
            obtain ⟨hlt, hn3⟩ := hlt
            obtain ⟨r, hr⟩ : ∃ r, M.a[k]? = some r := ⟨_, List.getElem?_eq_getElem hlt⟩
            obtain ⟨ad, hAd, hadb, hcell⟩ := rows_rc (HM.out.nx HB.out).a hr
            rw [HAA.out] at hAd
            subst hAd
            have HCELL : Hid (∀ j u, ([.string r.nm, .int .i64 r.t, .int .i64 r.c, .int .i64 r.u, .slice r.A r.da.length r.k] : List Value)[j]? = some u → wr.cell? ((ad.add (k * 5)).add j) = some u) := hcell
            have HRC := Lib.hid hr
            obtain ⟨_, _, hd7, hn7⟩ := (HM.out.nx HB.out).ar r (List.mem_of_getElem? hr)
            have y0 : wr.cell? (ad.add (k * 5)) = some (.string r.nm) := by have := HCELL.out 0 _ rfl; simpa [Addr.add] using this
            have y4 : wr.cell? ⟨(ad.add (k * 5)).block, (ad.add (k * 5)).off + 4, none⟩ = some (.slice r.A r.da.length r.k) := HCELL.out 4 _ rfl
            have k1 : (k : Int) < M.a.length := by omega
            have k0 : (0 : Int) ≤ k := by omega
            have n9 : (n : Int) ≤ 3000 := by omega
            have e2 := C2.out wr HB.out
            have e3 := C3.out wr HB.out
            have HB2 : Hid (∀ m, Below W.heap.size W (wr.drewN m)) := fun m => dn HB.out m
            have s1 : IntKind.i64.wrap ((n : Int) + (r.nm.size : Nat)) = (n : Int) + (r.nm.size : Nat) := IntWalk.i64_in _ (by omega)
            have s2 : IntKind.i64.wrap ((n : Int) + (r.nm.size : Nat) + (r.da.length : Nat)) = (n : Int) + (r.nm.size : Nat) + (r.da.length : Nat) := IntWalk.i64_in _ (by omega)
            have HK2 : Hid (∀ (j : Nat) (q : Rc), M.a[j]? = some q → j < k + 1 → q.nm.size + q.da.length ≤ n + r.nm.size + r.da.length) := by
              intro j q hq hj
              by_cases hjk : j < k
              · have := HK.out j q hq hjk; omega
              · have e : j = k := by omega
                subst e
                have e : q = r := Option.some.inj (hq.symm.trans HRC.out)
                subst e
                omega
            have HN2 : Hid (n1 ≤ n + r.nm.size + r.da.length) := by show _ ≤ _; have h : n1 ≤ n := HN0.out; omega
            clear hcell hr hadb
            go_wp2
            go_quiet (fail)
            go_wp2
            go_roundw
            case rel =>
              first
                | exact ⟨k + 1, n + r.nm.size + r.da.length, by go_num, by go_num, by omega, by omega, HB2.out _, HN2.out, HK2.out⟩
                | ((repeat apply Exists.intro); refine ⟨?_, rfl⟩; exact ⟨k + 1, n + r.nm.size + r.da.length, by go_num, by go_num, by omega, by omega, HB2.out _, HN2.out, HK2.out⟩)
            case measure => simp [intOf]; omega
          · by_cases hlt2 : k < M.a.length
            · have n4 : ¬ (n : Int) ≤ 3000 := by omega
              have HA : Hid (n ≤ 3000 → ∀ r ∈ M.a, r.nm.size + r.da.length ≤ n) := by
                intro h3 r hr
                obtain ⟨j, hj⟩ := List.getElem?_of_mem hr
                exact HK.out j r hj (by have := (List.getElem?_eq_some_iff.1 hj).1; omega)
              have e2 := C2.out wr HB.out
              have e3 := C3.out wr HB.out
              have HBx := Lib.hid HB.out
              have HF : Hid (n ≤ 3000 → IsM w M) := by
                intro h3
                have h4 : n1 ≤ n := HN0.out
                have h5 : M.q.length + M.a.length ≤ n1 := HNq.out
                exact HN.out.is (by omega) (by omega) (fun r hr => by have := HQ.out (by omega) r hr; omega) (fun r hr => by have := HA.out h3 r hr; omega)
              have n5 : (3000 : Int) < n := by omega
              go_wp2
              go_ret
              exact ⟨_, rfl, nx B0.out HBx.out, fun h => by simp at h⟩
            · skip
              have HA : Hid (n ≤ 3000 → ∀ r ∈ M.a, r.nm.size + r.da.length ≤ n) := by
                intro h3 r hr
                obtain ⟨j, hj⟩ := List.getElem?_of_mem hr
                exact HK.out j r hj (by have := (List.getElem?_eq_some_iff.1 hj).1; omega)
              have e2 := C2.out wr HB.out
              have e3 := C3.out wr HB.out
              have HBx := Lib.hid HB.out
              have HF : Hid (n ≤ 3000 → IsM w M) := by
                intro h3
                have h4 : n1 ≤ n := HN0.out
                have h5 : M.q.length + M.a.length ≤ n1 := HNq.out
                exact HN.out.is (by omega) (by omega) (fun r hr => by have := HQ.out (by omega) r hr; omega) (fun r hr => by have := HA.out h3 r hr; omega)
              by_cases n5 : (3000 : Int) < n
              · go_wp2
                go_ret
                exact ⟨_, rfl, nx B0.out HBx.out, fun h => by simp at h⟩
              · go_wp2
                go_ret
                exact ⟨_, rfl, nx B0.out HBx.out, fun h => HF.out (by omega)⟩
      · skip
        have HQ : Hid (n ≤ 3000 → ∀ r ∈ M.q, r.nm.size + r.da.length ≤ n) := by
          intro h3 r hr
          obtain ⟨j, hj⟩ := List.getElem?_of_mem hr
          exact HK.out j r hj (by have := (List.getElem?_eq_some_iff.1 hj).1; omega)
        have e2 := C2.out wr HB.out
        have e3 := C3.out wr HB.out
        have HBx := Lib.hid HB.out
        have HNq := Lib.hid HN0.out
        go_wp2
        clear e2 e3 HB HK hlt
        obtain ⟨n1, hn1⟩ : ∃ n1, n1 = n := ⟨_, rfl⟩
        have HN1 := Lib.hid hn1
        rw [← hn1] at HQ HN0 HNq
        clear hn1
        go_loopw [3, 5] (fun nv kv wr => ∃ (k n : Nat), nv = .int .i64 n ∧ kv = .int .i64 k ∧ k ≤ M.a.length ∧ n ≤ 562949953421312 ∧ Hid (Below W.heap.size W wr) ∧ Hid (n1 ≤ n) ∧ Hid (∀ (j : Nat) (r : Rc), M.a[j]? = some r → j < k → r.nm.size + r.da.length ≤ n)) (fun _ kv _ => M.a.length - (intOf kv).toNat)
        case atStart => exact ⟨0, n, by go_num, rfl, by omega, by omega, HBx.out, by show _ ≤ _; rw [HN1.out]; exact Nat.le_refl _, fun j r _ hk => by omega⟩
        case round =>
          obtain ⟨k, n, rfl, rfl, hk, hn5, HB, HN0, HK⟩ := hrel
          by_cases hlt : k < M.a.length ∧ n ≤ 3000
          · skip
            obtain ⟨hlt, hn3⟩ := hlt
            obtain ⟨r, hr⟩ : ∃ r, M.a[k]? = some r := ⟨_, List.getElem?_eq_getElem hlt⟩
            obtain ⟨ad, hAd, hadb, hcell⟩ := rows_rc (HM.out.nx HB.out).a hr
            rw [HAA.out] at hAd
            subst hAd
            have HCELL : Hid (∀ j u, ([.string r.nm, .int .i64 r.t, .int .i64 r.c, .int .i64 r.u, .slice r.A r.da.length r.k] : List Value)[j]? = some u → wr.cell? ((ad.add (k * 5)).add j) = some u) := hcell
            have HRC := Lib.hid hr
            obtain ⟨_, _, hd7, hn7⟩ := (HM.out.nx HB.out).ar r (List.mem_of_getElem? hr)
            have y0 : wr.cell? (ad.add (k * 5)) = some (.string r.nm) := by have := HCELL.out 0 _ rfl; simpa [Addr.add] using this
            have y4 : wr.cell? ⟨(ad.add (k * 5)).block, (ad.add (k * 5)).off + 4, none⟩ = some (.slice r.A r.da.length r.k) := HCELL.out 4 _ rfl
            have k1 : (k : Int) < M.a.length := by omega
            have k0 : (0 : Int) ≤ k := by omega
            have n9 : (n : Int) ≤ 3000 := by omega
            have e2 := C2.out wr HB.out
            have e3 := C3.out wr HB.out
            have HB2 : Hid (∀ m, Below W.heap.size W (wr.drewN m)) := fun m => dn HB.out m
            have s1 : IntKind.i64.wrap ((n : Int) + (r.nm.size : Nat)) = (n : Int) + (r.nm.size : Nat) := IntWalk.i64_in _ (by omega)
            have s2 : IntKind.i64.wrap ((n : Int) + (r.nm.size : Nat) + (r.da.length : Nat)) = (n : Int) + (r.nm.size : Nat) + (r.da.length : Nat) := IntWalk.i64_in _ (by omega)
            have HK2 : Hid (∀ (j : Nat) (q : Rc), M.a[j]? = some q → j < k + 1 → q.nm.size + q.da.length ≤ n + r.nm.size + r.da.length) := by
              intro j q hq hj
              by_cases hjk : j < k
              · have := HK.out j q hq hjk; omega
              · have e : j = k := by omega
                subst e
                have e : q = r := Option.some.inj (hq.symm.trans HRC.out)
                subst e
                omega
            have HN2 : Hid (n1 ≤ n + r.nm.size + r.da.length) := by show _ ≤ _; have h : n1 ≤ n := HN0.out; omega
            clear hcell hr hadb
            go_wp2
            go_quiet (fail)
            go_wp2
            go_roundw
            case rel =>
              first
                | exact ⟨k + 1, n + r.nm.size + r.da.length, by go_num, by go_num, by omega, by omega, HB2.out _, HN2.out, HK2.out⟩
                | ((repeat apply Exists.intro); refine ⟨?_, rfl⟩; exact ⟨k + 1, n + r.nm.size + r.da.length, by go_num, by go_num, by omega, by omega, HB2.out _, HN2.out, HK2.out⟩)
            case measure => simp [intOf]; omega
          · by_cases hlt2 : k < M.a.length
            · have n4 : ¬ (n : Int) ≤ 3000 := by omega
              have HA : Hid (n ≤ 3000 → ∀ r ∈ M.a, r.nm.size + r.da.length ≤ n) := by
                intro h3 r hr
                obtain ⟨j, hj⟩ := List.getElem?_of_mem hr
                exact HK.out j r hj (by have := (List.getElem?_eq_some_iff.1 hj).1; omega)
              have e2 := C2.out wr HB.out
              have e3 := C3.out wr HB.out
              have HBx := Lib.hid HB.out
              have HF : Hid (n ≤ 3000 → IsM w M) := by
                intro h3
                have h4 : n1 ≤ n := HN0.out
                have h5 : M.q.length + M.a.length ≤ n1 := HNq.out
                exact HN.out.is (by omega) (by omega) (fun r hr => by have := HQ.out (by omega) r hr; omega) (fun r hr => by have := HA.out h3 r hr; omega)
              have n5 : (3000 : Int) < n := by omega
              go_wp2
              go_ret
              exact ⟨_, rfl, nx B0.out HBx.out, fun h => by simp at h⟩
            · skip
              have HA : Hid (n ≤ 3000 → ∀ r ∈ M.a, r.nm.size + r.da.length ≤ n) := by
                intro h3 r hr
                obtain ⟨j, hj⟩ := List.getElem?_of_mem hr
                exact HK.out j r hj (by have := (List.getElem?_eq_some_iff.1 hj).1; omega)
              have e2 := C2.out wr HB.out
              have e3 := C3.out wr HB.out
              have HBx := Lib.hid HB.out
              have HF : Hid (n ≤ 3000 → IsM w M) := by
                intro h3
                have h4 : n1 ≤ n := HN0.out
                have h5 : M.q.length + M.a.length ≤ n1 := HNq.out
                exact HN.out.is (by omega) (by omega) (fun r hr => by have := HQ.out (by omega) r hr; omega) (fun r hr => by have := HA.out h3 r hr; omega)
              by_cases n5 : (3000 : Int) < n
              · go_wp2
                go_ret
                exact ⟨_, rfl, nx B0.out HBx.out, fun h => by simp at h⟩
              · go_wp2
                go_ret
                exact ⟨_, rfl, nx B0.out HBx.out, fun h => HF.out (by omega)⟩
end Go.Proofs.YtlojbnnmlpfnbaaDoor
