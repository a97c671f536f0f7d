/-
  Resolve: what is kept (merged: have, until, lay, addr, Clone, ends, goes; keeps in plain Lean; a line of leads).
-/
import Derived.Test.YtpfkmmmlocmakaaDoorRvV
import Derived.Laws.BitsLemmas
import Derived.Test.YtpfkmmmlocmakaaDoorRvG
set_option linter.unusedVariables false
namespace Go.Proofs.YtpfkmmmlocmakaaDoor
section
open Go.RowKit Go.Maps

structure En where
  (key cname : ByteArray)
  leads : Bool
  ad : List Int
  A : Option Addr
  k : Nat
  behind : Int
def En.cs (e : En) : Array Value := #[.string e.key, .string e.cname, .bool e.leads, .slice e.A e.ad.length e.k, .int .i64 e.behind]
def inL (L : List (Nat × En)) (s : ByteArray) : Bool := L.any fun p => decide (p.2.key = s)
theorem inL_mem {L : List (Nat × En)} {s : ByteArray} (h : inL L s = true) : ∃ p ∈ L, p.2.key = s := by
  obtain ⟨p, hp, e⟩ := List.any_eq_true.1 h
  exact ⟨p, hp, by simpa using e⟩
theorem inL_of {L : List (Nat × En)} {p : Nat × En} (h : p ∈ L) : inL L p.2.key = true := List.any_eq_true.2 ⟨p, h, by simp⟩
structure IsKp (w : World) (B km : Nat) (AA : Option Addr) (ac : Nat) (L : List (Nat × En)) (D : DataW Unit) : Prop where
  own : w.ownsMap Tryd.prog 9 pR km L.length D
  size : Maps.size D = L.length
  has : ∀ s : ByteArray, s.size ≤ maxLen → Maps.has D (.string s.data.toList) = inL L s
  at_ : ∀ p ∈ L, ∀ z, D.atKey (.string p.2.key.data.toList) z = pD (some p.1)
  apart : L.Pairwise fun p q => p.2.key ≠ q.2.key
  ksz : ∀ p ∈ L, p.2.key.size ≤ 1000000
  age : w.ownsRow B 74 1 (.slice AA L.length ac) L.length (L.map fun p => ptr p.1)
  e : ∀ p ∈ L, Blk w p.1 76 p.2.cs ∧ B ≤ p.1
  ad : ∀ p ∈ L, w.ownsRow B 33 1 (.slice p.2.A p.2.ad.length p.2.k) p.2.ad.length (p.2.ad.map (Value.int .u32))
  mlo : B ≤ km
theorem IsKp.keep {w w' : World} {B km : Nat} {AA : Option Addr} {ac : Nat} {L : List (Nat × En)} {D : DataW Unit} {ts : List TypeId} (h : IsKp w B km AA ac L D) (k : KeepT w.heap.size ts w w') (h1 : 60 ∉ ts) (h2 : 74 ∉ ts) (h3 : 76 ∉ ts) (h4 : 33 ∉ ts) : IsKp w' B km AA ac L D := by
  refine ⟨?_, h.size, h.has, h.at_, h.apart, h.ksz, k.own h.age h2, fun p hp => ⟨k.blk_ (h.e p hp).1 h3, (h.e p hp).2⟩, fun p hp => k.own (h.ad p hp) h4, h.mlo⟩
  have hlt := World.ownsMap.lt h.own
  obtain ⟨es, c, hb, r⟩ := h.own
  exact ⟨es, c, k km _ hlt hb h1, r⟩
theorem IsKp.nx {w w' : World} {B km : Nat} {AA : Option Addr} {ac : Nat} {L : List (Nat × En)} {D : DataW Unit} (h : IsKp w B km AA ac L D) (k : Below w.heap.size w w') : IsKp w' B km AA ac L D := h.keep (KeepT.of_below (ts := []) k (Nat.le_refl _)) (by simp) (by simp) (by simp) (by simp)
theorem IsKp.none_ {w : World} {B km : Nat} (h : KE w km) (hB : B ≤ km) : IsKp w B km none 0 [] (.map []) := by
  refine ⟨h, rfl, fun s _ => rfl, by simp, List.Pairwise.nil, by simp, World.ownsRow_nil _ _ _ _, by simp, by simp, hB⟩
theorem key_str {s : ByteArray} (hs : s.size ≤ maxLen) : keyOf Tryd.prog 9 (.string s) = some (.string s.data.toList) := Go.WideMaps.keyOf_string_mk Tryd.underlying9 hs
theorem IsKp.look_none {w : World} {B km : Nat} {AA : Option Addr} {ac : Nat} {L : List (Nat × En)} {D : DataW Unit} (h : IsKp w B km AA ac L D) {s : ByteArray} (hs : s.size ≤ maxLen) (hn : inL L s = false) :
    (Instr.lookup 60 (.map (some km)) (.string s) false).run Tryd.prog w = .ok (.pointer none) w := by
  obtain ⟨v, ps, hrun, hv⟩ := h.own.lookup strK Tryd.underlying60 (zeroE w) (pR_mk none) (key_str hs)
  obtain ⟨o, rfl, ho⟩ := pR_inv v _ hv
  rw [hrun]
  rw [Maps.atKey_of_not_has (by rw [h.has s hs]; exact hn)] at ho
  have e : pD none = pD o := congrArg Prod.fst ho
  obtain rfl := pD_inj e
  rfl
theorem IsKp.look_some {w : World} {B km : Nat} {AA : Option Addr} {ac : Nat} {L : List (Nat × En)} {D : DataW Unit} (h : IsKp w B km AA ac L D) {p : Nat × En} (hp : p ∈ L) :
    (Instr.lookup 60 (.map (some km)) (.string p.2.key) false).run Tryd.prog w = .ok (.pointer (some ⟨p.1, 0, none⟩)) w := by
  have hs : p.2.key.size ≤ maxLen := by have := h.ksz p hp; unfold maxLen; omega
  obtain ⟨v, ps, hrun, hv⟩ := h.own.lookup strK Tryd.underlying60 (zeroE w) (pR_mk none) (key_str hs)
  obtain ⟨o, rfl, ho⟩ := pR_inv v _ hv
  rw [hrun]
  rw [h.at_ p hp] at ho
  have e : pD (some p.1) = pD o := congrArg Prod.fst ho
  obtain rfl := pD_inj e
  rfl
-- have: nothing is kept of the name
set_option maxRecDepth 100000 in
set_option maxHeartbeats 800000 in
theorem haveN (w : World) (wb rb B km : Nat) (AA : Option Addr) (ac : Nat) (L : List (Nat × En)) (D : DataW Unit) (s : ByteArray) (hs : s.size ≤ 1000000) (WC RC : Array Value) (hw : Blk w wb 71 WC) (hw0 : WC[0]? = some (.pointer (some ⟨rb, 0, none⟩))) (hr : Blk w rb 64 RC) (hr4 : RC[4]? = some (.map (some km))) (hk : IsKp w B km AA ac L D) (hn : inL L (lowS s) = false) :
    Calls Tryd.prog 44 #[.pointer (some ⟨wb, 0, none⟩), .string s] w fun e w' => e = .returned (.pointer none) ∧ Below w.heap.size w w' := by
  have K0 : ∀ x : Bw w, x.w.cell? ⟨wb, 0, none⟩ = some (.pointer (some ⟨rb, 0, none⟩)) := fun x => ((hw.nx x.h).cell 0).trans hw0
  have K4 : ∀ x : Bw w, x.w.cell? ⟨rb, 4, none⟩ = some (.map (some km)) := fun x => ((hr.nx x.h).cell 4).trans hr4
  have KL : ∀ x : Bw w, (Instr.lookup 60 (.map (some km)) (.string (lowS s)) false).run Tryd.prog x.w = .ok (.pointer none) x.w := fun x => (hk.nx x.h).look_none (by rw [lowS_size]; unfold maxLen; omega) hn
  clear hw hw0 hr hr4 hk hn
  go_enter Tryd.func44, Tryd.ntmps44
  go_wp2
  refine wp_region_below (by kernel_rfl) (by kernel_rfl) ?_
  repeat (go_big_quiet_step (first
    | (go_at_call 60; exact Calls.bw _ (keyS s _ (by omega)))))
  refine wpQuiet_nil ?_
  intro _ hw'
  obtain ⟨y, rfl⟩ := hw'
  have HY := Lib.hid y.h
  go_wp2
  go_quiet (fail)
  go_wp2
  go_ret
  exact ⟨rfl, dn HY.out _⟩
-- have: an entry of the name is kept
set_option maxRecDepth 100000 in
set_option maxHeartbeats 800000 in
theorem haveS (w : World) (wb rb B km : Nat) (AA : Option Addr) (ac : Nat) (L : List (Nat × En)) (D : DataW Unit) (s : ByteArray) (hs : s.size ≤ 1000000) (now : Int) (WC RC : Array Value) (hw : Blk w wb 71 WC) (hw0 : WC[0]? = some (.pointer (some ⟨rb, 0, none⟩))) (hw1 : WC[1]? = some (.int .i64 now)) (hr : Blk w rb 64 RC) (hr4 : RC[4]? = some (.map (some km))) (hk : IsKp w B km AA ac L D) (p : Nat × En) (hp : p ∈ L) (hpk : p.2.key = lowS s) :
    Calls Tryd.prog 44 #[.pointer (some ⟨wb, 0, none⟩), .string s] w fun e w' => e = .returned (if now < p.2.behind then .pointer (some ⟨p.1, 0, none⟩) else .pointer none) ∧ Below w.heap.size w w' := by
  have K0 : ∀ x : Bw w, x.w.cell? ⟨wb, 0, none⟩ = some (.pointer (some ⟨rb, 0, none⟩)) := fun x => ((hw.nx x.h).cell 0).trans hw0
  have K1 : ∀ x : Bw w, x.w.cell? ⟨wb, 1, none⟩ = some (.int .i64 now) := fun x => ((hw.nx x.h).cell 1).trans hw1
  have KB : ∀ x : Bw w, x.w.cell? ⟨p.1, 4, none⟩ = some (.int .i64 p.2.behind) := fun x => (((hk.nx x.h).e p hp).1).cell 4
  have K4 : ∀ x : Bw w, x.w.cell? ⟨rb, 4, none⟩ = some (.map (some km)) := fun x => ((hr.nx x.h).cell 4).trans hr4
  have KL : ∀ x : Bw w, (Instr.lookup 60 (.map (some km)) (.string (lowS s)) false).run Tryd.prog x.w = .ok (.pointer (some ⟨p.1, 0, none⟩)) x.w := fun x => by rw [← hpk]; exact (hk.nx x.h).look_some hp
  clear hw hw0 hw1 hr hr4 hk hp hpk
  by_cases hnb : now < p.2.behind
  all_goals
    go_enter Tryd.func44, Tryd.ntmps44
    go_wp2
    refine wp_region_below (by kernel_rfl) (by kernel_rfl) ?_
    repeat (go_big_quiet_step (first
      | (go_at_call 60; exact Calls.bw _ (keyS s _ (by omega)))))
    refine wpQuiet_nil ?_
    intro _ hw'
    obtain ⟨y, rfl⟩ := hw'
    have HY := Lib.hid y.h
    have c1 := K1 y
    have cb := KB y
    have c0 := K0 y
    go_wp2
    go_quiet (fail)
    go_wp2
    go_ret
    exact ⟨by simp, dn HY.out _⟩
theorem untilC (w : World) (wb : Nat) (now t : Int) (WC : Array Value) (hw : Blk w wb 71 WC) (hw1 : WC[1]? = some (.int .i64 now)) (n0 : 0 ≤ now) (n1 : now ≤ 1152921504606846976) (t0 : 0 ≤ t) (t1 : t ≤ 2147483647) :
    Calls Tryd.prog 62 #[.pointer (some ⟨wb, 0, none⟩), .int .i64 t] w fun e w' => e = .returned (.int .i64 (if t = 0 then now + 1 else now + 10 * t)) ∧ w' = w := by
  have c1 : w.cell? ⟨wb, 1, none⟩ = some (.int .i64 now) := (hw.cell 1).trans hw1
  clear hw hw1
  by_cases ht : t = 0
  · subst ht
    go_enter Tryd.func62, Tryd.ntmps62
    go_wp2
    go_ret
    exact ⟨rfl, rfl⟩
  · go_enter Tryd.func62, Tryd.ntmps62
    go_wp2
    go_ret
    exact ⟨by simp, rfl⟩
end
section
open Go.RowKit Go.Maps

theorem IsKp.put {w w' : World} {B km g : Nat} {AA : Option Addr} {ac : Nat} {L : List (Nat × En)} {D : DataW Unit} (h : IsKp w B km AA ac L D) (x : En) (hnew : inL L x.key = false) (hsz : x.key.size ≤ 1000000)
    (own : w'.ownsMap Tryd.prog 9 pR km (L.length + 1) (D.put (.string x.key.data.toList) (pD (some g)))) (hg : w.grownBy w' (some km)) (hx : Blk w g 76 x.cs) (hB : B ≤ g) (had : w.ownsRow B 33 1 (.slice x.A x.ad.length x.k) x.ad.length (x.ad.map (Value.int .u32))) :
    ∃ D', w'.ownsMap Tryd.prog 9 pR km (L ++ [(g, x)]).length D' ∧ Maps.size D' = (L ++ [(g, x)]).length ∧ (∀ s : ByteArray, s.size ≤ maxLen → Maps.has D' (.string s.data.toList) = inL (L ++ [(g, x)]) s) ∧ (∀ p ∈ L ++ [(g, x)], ∀ z, D'.atKey (.string p.2.key.data.toList) z = pD (some p.1)) ∧ (L ++ [(g, x)]).Pairwise fun p q => p.2.key ≠ q.2.key := by
  have hmx : x.key.size ≤ maxLen := by unfold maxLen; omega
  have hkey : WideAt.IsKeyLit (Lit.string x.key.data.toList) := strK.key (key_str hmx)
  have tidy := h.own.tidy strK
  have hD := tidy.isMap
  have hne : ∀ p ∈ L, p.2.key ≠ x.key := fun p hp e => by
    have := inL_of hp
    rw [e, hnew] at this; cases this
  have lit_ne : ∀ {s t : ByteArray}, s ≠ t → (Lit.string s.data.toList : Lit) ≠ .string t.data.toList := fun {s t} h e => by
    injection e with e
    exact h (bytes_ext e)
  refine ⟨D.put (.string x.key.data.toList) (pD (some g)), by simpa using own, ?_, fun s hs => ?_, fun p hp z => ?_, ?_⟩
  · rw [Maps.size_put tidy, h.has x.key hmx, hnew, h.size]; simp
  · by_cases e : s = x.key
    · subst e
      rw [Maps.has_put_same hD hkey]
      symm
      unfold inL
      rw [List.any_append]
      simp
    · rw [Maps.has_put_other (lit_ne e), h.has s hs]
      unfold inL
      rw [List.any_append]
      have : decide (x.key = s) = false := decide_eq_false (fun h => e h.symm)
      simp [this]
  · rcases List.mem_append.1 hp with hp | hp
    · rw [Maps.atKey_put_other (lit_ne (hne p hp))]
      exact h.at_ p hp z
    · obtain rfl := List.mem_singleton.1 hp
      exact Maps.atKey_put_same hD hkey _ _
  · rw [List.pairwise_append]
    exact ⟨h.apart, by simp, fun a ha b hb => by obtain rfl := List.mem_singleton.1 hb; exact hne a ha⟩
end
section
open Go.RowKit Go.Maps

theorem own_map_keep {w w' : World} {km n : Nat} {D : DataW Unit} {ts : List TypeId} (h : w.ownsMap Tryd.prog 9 pR km n D) (k : KeepT w.heap.size ts w w') (hn : 60 ∉ ts) : w'.ownsMap Tryd.prog 9 pR km n D := by
  have hlt := World.ownsMap.lt h
  obtain ⟨es, c, hb, r⟩ := h
  exact ⟨es, c, k km _ hlt hb hn, r⟩
-- the blocks that lay touches, by their numbers; where the list of ages lies
def LayF (w : World) (rb km : Nat) (v v' : Value) (w' : World) : Prop :=
  (∀ i, i < w.heap.size → i ≠ rb → i ≠ km → v.ownBlock ≠ some i → w'.heap[i]? = w.heap[i]?) ∧ (v'.ownBlock = v.ownBlock ∨ ∃ b, w.heap.size ≤ b ∧ v'.ownBlock = some b)
def LayP (w : World) (B rb km g : Nat) (z : Rz) (L : List (Nat × En)) (x : En) (e : Ending) (w' : World) : Prop :=
  e = .returned (.tuple #[]) ∧ ∃ (AA' : Option Addr) (ac' : Nat) (D' : DataW Unit), IsRv w' B rb { z with age := .slice AA' (L.length + 1) ac' } ∧ IsKp w' B km AA' ac' (L ++ [(g, x)]) D' ∧
    KeepT w.heap.size [60, 64, 74] w w' ∧ Below B w w' ∧ LayF w rb z.km z.age (.slice AA' (L.length + 1) ac') w'
set_option maxRecDepth 100000 in
set_option maxHeartbeats 1600000 in
theorem layC (w : World) (B rb km g : Nat) (z : Rz) (AA : Option Addr) (ac : Nat) (L : List (Nat × En)) (D : DataW Unit) (x : En) (hR : IsRv w B rb z) (hkm : z.km = km) (hage : z.age = .slice AA L.length ac) (hK : IsKp w B km AA ac L D)
    (hx : Blk w g 76 x.cs) (hgB : B ≤ g) (had : w.ownsRow B 33 1 (.slice x.A x.ad.length x.k) x.ad.length (x.ad.map (Value.int .u32))) (hnew : inL L x.key = false) (hsz : x.key.size ≤ 1000000) (hl : L.length < 64) (hB : B ≤ w.heap.size) :
    Calls Tryd.prog 61 #[.pointer (some ⟨rb, 0, none⟩), .pointer (some ⟨g, 0, none⟩)] w (LayP w B rb km g z L x) := by
  have r4 : w.cell? ⟨rb, 4, none⟩ = some (.map (some km)) := by rw [← hkm]; exact hR.b.cell 4
  have r5 : w.cell? ⟨rb, 5, none⟩ = some (.slice AA L.length ac) := by rw [← hage]; exact hR.b.cell 5
  have g0 : w.cell? ⟨g, 0, none⟩ = some (.string x.key) := hx.cell 0
  have hmx : x.key.size ≤ maxLen := by unfold maxLen; omega
  have KL : ∀ n, (Instr.lookup 60 (.map (some km)) (.string x.key) false).run Tryd.prog (w.drewN n) = .ok (.pointer none) (w.drewN n) := fun n => (hK.nx (dn (rf w) n)).look_none hmx hnew
  have hl64 : ¬ (64 : Int) ≤ L.length := by omega
  have HR := Lib.hid hR
  have HK := Lib.hid hK
  have HX := Lib.hid hx
  have HAD := Lib.hid had
  have HNEW := Lib.hid hnew
  have HKM := Lib.hid hkm
  have HAG := Lib.hid hage
  clear hR hkm hage hK hx had hnew
  go_enter Tryd.func61, Tryd.ntmps61
  go_wp2
  go_quiet (fail)
  go_wp2
  have B1 := Lib.hid (dn (rf w) nq)
  generalize w.drewN nq = w1 at B1 ⊢
  have R1 := Lib.hid (HR.out.nx B1.out)
  have K1 := Lib.hid (HK.out.nx B1.out)
  have X1 := Lib.hid (HX.out.nx B1.out)
  have A1 := Lib.hid (own_nx HAD.out B1.out)
  have hz1 := B1.out.size
  obtain ⟨zcs, hzcs⟩ : ∃ zcs, zcs = z.cs := ⟨_, rfl⟩
  have blk_km : ∀ {t : TypeId} {i : Nat} {cs : Array Value}, Blk w1 i t cs → i ≠ km := fun {t i cs} hb e => by
    obtain ⟨es, c, hm, _⟩ := K1.out.own
    subst e
    unfold Blk at hb
    rw [hb] at hm
    injection hm with hm
    cases hm
  have ngr : g ≠ rb := X1.out.ne_ R1.out.b (by decide)
  have e4 : ∀ y : Gd w1 rb (fun i => i = km) 64 zcs, y.w.cell? ⟨rb, 4, none⟩ = some (.map (some km)) := fun y => by
    rw [y.z.cell, hzcs, ← HKM.out]; rfl
  have eg : ∀ y : Gd w1 rb (fun i => i = km) 64 zcs, y.w.cell? ⟨g, 0, none⟩ = some (.string x.key) := fun y => (y.blk X1.out ngr (blk_km X1.out)).cell 0
  have RBc : Hid (Blk w1 rb 64 zcs) := by show Blk _ _ _ _; rw [hzcs]; exact R1.out.b
  have hne1 : Nonempty (Gd w1 rb (fun i => i = km) 64 zcs) := ⟨⟨w1, Cd.refl _ _ _, RBc.out⟩⟩
  obtain ⟨w2, hrun, own2, turned⟩ := World.ownsMap.store (K1.out.own.drew) strK Tryd.underlying60 (by unfold maxLen; omega) (key_str hmx) (pR_mk (some g))
  have HRUN := Lib.hid hrun
  have OWN2 := Lib.hid own2
  have G2 := Lib.hid turned.grown
  have NKM := Lib.hid (blk_km R1.out.b)
  have HZC := Lib.hid hzcs
  clear hrun own2 turned r4 r5 g0 KL blk_km hzcs ngr
  refine wp_region_chd rb (fun i => i = km) 64 zcs 9 (by kernel_rfl) (by kernel_rfl) (by kernel_rfl) (by kernel_rfl) RBc.out ?_
  iterate 9 (refine chd_early (by kernel_rfl) (by kernel_rfl) (by kernel_rfl) ?_; intro K hK; go_big_quiet_op; go_big_quiet_on)
  refine chd_one w1.drew w2 undef (by kernel_rfl) (by kernel_rfl) (.inr ⟨by have h := HRUN.out; simp only [pV] at h; unfold execOp; simp [go_sem, h], rfl⟩) (fun hC => ⟨G2.out.os.trans hC.os, G2.out.tape.trans hC.tape, G2.out.output.trans hC.output, Nat.le_trans hC.size G2.out.size, fun i hi h1 h2 => (G2.out.block i (Nat.lt_of_lt_of_le hi hC.size) (by intro e; injection e with e; exact h2 e)).trans (hC.block i hi h1 h2)⟩) (fun hne => absurd rfl hne) ?_
  go_frame
  refine chd_nil ?_
  intro wz hC hz
  subst hz
  clear e4 eg hne1 hC
  have kM : ∀ n ts, n ≤ w1.heap.size → (60 ∈ ts) → KeepT n ts w1 wz := fun n ts hn ht i o hi ho hno => by
    have hne : i ≠ km := by
      rintro rfl
      obtain ⟨es, c, hm, _⟩ := K1.out.own
      rw [hm] at ho; injection ho with ho; subst ho
      exact hno ht
    rw [G2.out.block i (by show i < w1.heap.size; omega) (by intro e; injection e with e; exact hne e)]
    exact ho
  have kM1 := kM w1.heap.size [60] (Nat.le_refl _) (by simp)
  have hz2 : w1.heap.size ≤ wz.heap.size := G2.out.size
  have R2 := Lib.hid (R1.out.keep kM1 (by decide) (by decide) (by decide) (by decide))
  have X2 := Lib.hid (kM1.blk_ X1.out (by decide))
  have A2 := Lib.hid (kM1.own A1.out (by decide))
  have AG2 := Lib.hid (kM1.own K1.out.age (by decide))
  have EN2 : Hid (∀ p ∈ L, Blk wz p.1 76 p.2.cs ∧ B ≤ p.1) := fun p hp => ⟨kM1.blk_ (K1.out.e p hp).1 (by decide), (K1.out.e p hp).2⟩
  have AD2 : Hid (∀ p ∈ L, wz.ownsRow B 33 1 (.slice p.2.A p.2.ad.length p.2.k) p.2.ad.length (p.2.ad.map (Value.int .u32))) := fun p hp => kM1.own (K1.out.ad p hp) (by decide)
  have KM1 := Lib.hid kM1
  have BM : Hid (Below B w1 wz) := below_only (show w1.grownBy wz (some km) from ⟨G2.out.os, G2.out.tape, G2.out.output, G2.out.size, G2.out.block⟩) K1.out.mlo (by omega)
  have r5 : wz.cell? ⟨rb, 5, none⟩ = some (.slice AA L.length ac) := by
    rw [R2.out.b.cell]
    show some z.age = _
    rw [HAG.out]
  have PUT := Lib.hid (K1.out.put x HNEW.out hsz OWN2.out (show w1.grownBy wz (some km) from ⟨G2.out.os, G2.out.tape, G2.out.output, G2.out.size, G2.out.block⟩) X1.out hgB A1.out)
  have KSZ := Lib.hid K1.out.ksz
  have MLO := Lib.hid K1.out.mlo
  clear kM kM1 RBc HZC HRUN OWN2
  go_wp2_with (at_builtin; refine app_any stEe rfl (.tmp 45) (.tmp 47) rfl B (.slice AA L.length ac) L.length (L.map fun p => ptr p.1) rfl (AG2.out.alloc (.cells #[.pointer (some ⟨g, 0, none⟩)] 74)) (some ⟨wz.heap.size, 0, none⟩) 1 1 [ptr g] rfl (Reads.one (Blk.new wz _ _)) (by intro u hu; simp only [List.mem_singleton] at hu; rw [hu]; rfl) (by omega) (by omega) (by simp; omega) ?_; intro v6 w6 own6 gr6 at6 bel6; obtain ⟨A6, n6, rfl⟩ := own_slice own6; have rb6 := (R2.out.b.alloc (.cells #[.pointer (some ⟨g, 0, none⟩)] 74)).grown gr6 (fun e => own_blk_ne AG2.out R2.out.b (by decide) e.symm); have c6 := rb6.cell 5; have f6 := rb6.frozen 5; simp only [Rz.cs, List.getElem?_toArray, List.getElem?_cons_zero, List.getElem?_cons_succ] at c6)
  have kb : Below wz.heap.size wz (wz.alloc (.cells #[.pointer (some ⟨g, 0, none⟩)] 74)) := al (rf wz) _
  have sz6 := gr6.size
  have szb := kb.size
  have rb6' : Blk w6 rb 64 z.cs := rb6
  have KF0 : ∀ n ts, n ≤ wz.heap.size → 74 ∈ ts → 64 ∈ ts → KeepT n ts wz (w6.setCell ⟨rb, 5, none⟩ (.slice A6 (L.length + 1) n6)) := fun n ts hn h1 h2 =>
    ((KeepT.of_below kb hn).trans (KeepT.of_row gr6 (AG2.out.alloc (.cells #[.pointer (some ⟨g, 0, none⟩)] 74)) (.inr h1) (by omega))).trans (KeepT.of_set rb6' _ (.inr h2) (by omega))
  have KF := KF0 wz.heap.size [64, 74] (Nat.le_refl _) (by simp) (by simp)
  have O6 := (KeepT.of_set (i := 5) (ts := [64]) rb6' (.slice A6 (L.length + 1) n6) (.inr (by simp)) (Nat.le_refl _)).own own6 (by decide)
  have RF : IsRv (w6.setCell ⟨rb, 5, none⟩ (.slice A6 (L.length + 1) n6)) B rb { z with age := .slice A6 (L.length + 1) n6 } :=
    ⟨rb6'.set_ 5 _, R2.out.lo, KF.own R2.out.sv (by decide), KF.own R2.out.qs (by decide), fun p hp => ⟨KF.blk_ (R2.out.q p hp).1 (by decide), (R2.out.q p hp).2⟩, R2.out.nd⟩
  have BF : Below B w (w6.setCell ⟨rb, 5, none⟩ (.slice A6 (L.length + 1) n6)) := ((((B1.out.mono hB).trans BM.out).trans (kb.mono (by omega))).trans bel6).setCell R2.out.lo _
  have KW : KeepT w.heap.size [60, 64, 74] w (w6.setCell ⟨rb, 5, none⟩ (.slice A6 (L.length + 1) n6)) :=
    ((KeepT.of_below B1.out (Nat.le_refl _)).trans ((KM1.out.mono (by decide)).less hz1)).trans ((KF.mono (by decide)).less (by omega))
  have LF : LayF w rb z.km z.age (.slice A6 (L.length + 1) n6) (w6.setCell ⟨rb, 5, none⟩ (.slice A6 (L.length + 1) n6)) := by
    rw [HAG.out, HKM.out]
    refine ⟨fun i hi h1 h2 h3 => ?_, ?_⟩
    · rw [Below.heap_setCell w6 ⟨rb, 5, none⟩ _ i h1, gr6.block i (by omega) (fun e => h3 e.symm), kb.block i (by omega)]
      exact (G2.out.block i (by show i < w1.heap.size; omega) (by intro e; injection e with e; exact h2 e)).trans (B1.out.block i hi)
    · rcases at6 with h | h
      · exact .inl h
      · exact .inr ⟨_, by omega, h⟩
  have HLF := Lib.hid LF
  have HRF := Lib.hid RF
  have HKF := Lib.hid KF
  have HBF := Lib.hid BF
  have HKW := Lib.hid KW
  have HO6 := Lib.hid O6
  clear LF RF KF BF KW O6 KF0 own6 gr6 at6 bel6 c6 f6 rb6 r5
  go_end0
  obtain ⟨D', p1, p2, p3, p4, p5⟩ := PUT.out
  refine ⟨rfl, A6, n6, D', HRF.out, ⟨own_map_keep p1 HKF.out (by decide), p2, p3, p4, p5, fun p hp => ?_, ?_, fun p hp => ?_, fun p hp => ?_, MLO.out⟩, HKW.out, HBF.out, HLF.out⟩
  · rcases List.mem_append.1 hp with hp | hp
    · exact KSZ.out p hp
    · obtain rfl := List.mem_singleton.1 hp
      exact hsz
  · rw [List.length_append, List.map_append]
    exact HO6.out
  · rcases List.mem_append.1 hp with hp | hp
    · exact ⟨HKF.out.blk_ (EN2.out p hp).1 (by decide), (EN2.out p hp).2⟩
    · obtain rfl := List.mem_singleton.1 hp
      exact ⟨HKF.out.blk_ X2.out (by decide), hgB⟩
  · rcases List.mem_append.1 hp with hp | hp
    · exact HKF.out.own (AD2.out p hp) (by decide)
    · obtain rfl := List.mem_singleton.1 hp
      exact HKF.out.own A2.out (by decide)
end
section
open Go.RowKit

def addrN (l : List UInt8) : Nat := l.foldl (fun a c => a * 256 % 4294967296 + c.toNat) 0
theorem addrN_lt (l : List UInt8) : addrN l < 4294967296 := by
  have h : ∀ (l : List UInt8) (a : Nat), a < 4294967296 → l.foldl (fun a c => a * 256 % 4294967296 + c.toNat) a < 4294967296 := by
    intro l
    induction l with
    | nil => intro a h; exact h
    | cons c l ih =>
      intro a h
      rw [List.foldl_cons]
      apply ih
      have := c.toNat_lt
      omega
  exact h l 0 (by omega)
theorem addrN_take {l : List UInt8} {k : Nat} (h : k < l.length) : addrN (l.take (k + 1)) = addrN (l.take k) * 256 % 4294967296 + l[k].toNat := by
  unfold addrN
  rw [List.take_succ_eq_append_getElem h, List.foldl_append]
  rfl
set_option maxRecDepth 100000 in
set_option maxHeartbeats 1600000 in
theorem addrC (w : World) (A : Option Addr) (l : List UInt8) (c : Nat) (hb : Bytes w A l) (hl : l.length ≤ 1000000) :
    Calls Tryd.prog 63 #[.slice A l.length c] w fun e w' => e = .returned (.int .u32 (addrN l : Nat)) ∧ w' = w := by
  have HB := Lib.hid hb
  clear hb
  obtain ⟨wz, hwz⟩ : ∃ wz, wz = w := ⟨_, rfl⟩
  have HWZ := Lib.hid hwz
  clear hwz
  go_enter Tryd.func63, Tryd.ntmps63
  go_wp2
  go_loopw [3, 8] (fun av kv ws => ∃ k : Nat, kv = .int .i64 k ∧ k ≤ l.length ∧ av = .int .u32 (addrN (l.take k) : Nat) ∧ Hid (ws = wz)) (fun _ kv _ => l.length - (intOf kv).toNat)
  case atStart => exact ⟨0, rfl, Nat.zero_le _, rfl, HWZ.out.symm⟩
  case round =>
    obtain ⟨k, rfl, hk, rfl, HW⟩ := hrel
    by_cases hlt : k < l.length
    · have hb2 : Bytes wr A l := by rw [HW.out, HWZ.out]; exact HB.out
      obtain ⟨ad, rfl, _, hc⟩ := Bytes.at_ hb2 hlt
      have k0 : (0 : Int) ≤ k := by omega
      have k1 : (k : Int) < l.length := by omega
      have HT := Lib.hid (addrN_take hlt)
      have hlt2 := addrN_lt (l.take k)
      obtain ⟨a, ha⟩ : ∃ a, addrN (l.take k) = a := ⟨_, rfl⟩
      rw [ha] at HT hlt2 ⊢
      have hcb := l[k].toNat_lt
      obtain ⟨cc, hcc⟩ : ∃ cc, l[k].toNat = cc := ⟨_, rfl⟩
      rw [hcc] at HT hc hcb
      clear ha hcc hb2
      have hj : bits .or .u32 ((a : Int) * 256 % 4294967296) (cc : Int) = ((a * 256 % 4294967296 + cc : Nat) : Int) := by
        rw [bits_join .u32 32 (by decide) (fun n h₀ h₁ => by rw [IntKind.wrap_u32]; omega) 8 _ _ (by omega) (by omega) (by omega) (by omega) (by omega) (by omega)]
        omega
      have HJ := Lib.hid hj
      clear hj
      go_wp2
      go_roundw
      case rel => exact ⟨k + 1, by go_num, by omega, by rw [HT.out, HJ.out], HW.out⟩
      case measure => simp [intOf]; omega
    · have hkl : k = l.length := by omega
      have HKL := Lib.hid hkl
      clear hkl
      go_wp2
      go_ret
      exact ⟨by rw [HKL.out, List.take_length]; rfl, HW.out.trans HWZ.out⟩
end
section
open Go.RowKit Go.Maps Go.Proofs.YtpfkmmmlocmakaaDoor.Chq

theorem app_exact {P : Program} {T : TypeId} {ops : Array Oper} {rest : List Oper} {o : Oper} {a : Act} {w : World} {Q : Exit → Act → World → Prop} (hgd : o.guard = none) (s x : Operand)
    (ho : o.op = .call { callee := .builtin .append, args := #[s, x], argTypes := #[T, T] }) (v' : Value) (w' : World) (hrun : (Builtin.append_ #[T, T] o.type #[a.eval s, a.eval x]).run P w = .ok v' w')
    (h : wpList P ops Q rest (a.put o.dst v') w') : wpList P ops Q (o :: rest) a w :=
  wpList_plain hgd fun _ hK => by
    unfold Oper.wp execOp
    simp only [ho, resolve, invoke, builtin, Sem.run_bind, Sem.run_pure, Result.andThen_ok, List.map_toArray, List.map_cons, List.map_nil, hrun]
    exact hK _ _ h
set_option maxRecDepth 100000 in
theorem cloneX (w : World) (A : Option Addr) (n c : Nat) (xs : List Value) (hr : Reads w w.heap.size 1 A n xs) (h1 : ∀ u ∈ xs, u.oneCell' = true) (hn : n ≤ 1000000) (h0 : A = none → n = 0) :
    ∃ (A' : Option Addr) (c' : Nat) (w2 : World), (Calls Tryd.prog 18 #[.slice A n c] w fun e w' => e = .returned (.slice A' n c') ∧ w' = w2) ∧ w2.ownsRow w.heap.size 33 1 (.slice A' n c') n xs ∧ Below w.heap.size w w2 := by
  cases A with
  | none =>
    obtain rfl := h0 rfl
    have hx : xs = [] := List.eq_nil_of_length_eq_zero (by simpa using hr.1)
    subst hx
    exact ⟨none, 0, w, cloneNil w 0 c, World.ownsRow_nil _ _ _ _, rf w⟩
  | some ad =>
    have Q : ∀ (w : World) (a : Option Addr) (n c : Nat), (binOp .eql 22 (.slice a n c) (.slice none 0 0)).run Tryd.prog w = .ok (.bool a.isNone) w := fun w a n c => Lib.run_eql_slice_nil w _ _ a n c 0 0 Tryd.underlying22
    have OL : (w.alloc (.cells #[] 33)).ownsRow w.heap.size 33 1 (.slice (some ⟨w.heap.size, 0, none⟩) 0 0) 0 [] := own_lit w #[] 0 rfl (Nat.le_refl _) (by unfold maxLen; omega) rfl
    have RA := Reads.more (Reads.alloc hr (Nat.le_refl _) (.cells #[] 33)) (show w.heap.size ≤ (w.alloc (.cells #[] 33)).heap.size by simp)
    obtain ⟨i, hi, hz0, hz1, hz2⟩ := info_parts stAd.hi
    obtain ⟨v', w2, hrun, own, gr, _⟩ := run_append_any (P := Tryd.prog) (w.alloc (.cells #[] 33)) w.heap.size 22 22 33 i _ 1 4 stAd.ht hi hz0 hz1 hz2 stAd.hz stAd.hs _ 0 [] OL _ (some ad) n c xs RA h1 (by unfold maxLen; omega) (by omega) (by simp)
    obtain ⟨A3, k3, rfl⟩ := own_slice own
    have own4 : w2.ownsRow w.heap.size 33 1 (.slice A3 n k3) n xs := by simpa using own
    have hb : Below w.heap.size w w2 := (al (rf w) _).trans ((Below.refl _ _).grown gr (by simp) (fun k hk => (OL.lt k hk).1))
    refine ⟨A3, k3, w2, ?_, own4, hb⟩
    have HRUN := Lib.hid hrun
    clear own own4 hb gr RA OL hr h1 hn h0 hrun
    go_enter Tryd.func18, Tryd.ntmps18
    go_wp2_with (at_builtin; refine app_exact rfl (.tmp 5) (.tmp 6) rfl _ _ HRUN.out ?_)
    go_ret
    exact ⟨by simp, rfl⟩
end
section
open Go.RowKit Go.Maps Go.Proofs.YtpfkmmmlocmakaaDoor.Chq

set_option maxRecDepth 100000 in
set_option maxHeartbeats 1600000 in
theorem endsK (w : World) (B N wb rb g : Nat) (z : Rz) (now draw : Int) (fs : List Fd) (FA : Option Addr) (fc : Nat) (ds : List Dg) (DA : Option Addr) (dc : Nat) (q : Qn) (err : Int) (Bx : Nat) (AD : Option Addr) (ads : List Int) (kd : Nat)
    (hR : IsRv w B rb z) (hW : IsWk w N wb rb now draw fs FA fc ds DA dc) (hqs : z.qs = [(g, q)]) (hAd : w.ownsRow Bx 33 1 (.slice AD ads.length kd) ads.length (ads.map (Value.int .u32))) (hads : ads.length ≤ 1000000) (hfs : fs.length ≤ 1000000) (hBN : B ≤ N) (hN : N ≤ w.heap.size) :
    Calls Tryd.prog 42 #[.pointer (some ⟨wb, 0, none⟩), .pointer (some ⟨g, 0, none⟩), .int .i64 err, .slice AD ads.length kd] w (fun e w' => ∃ (A' : Option Addr) (k' : Nat), EndP w B N wb rb z now draw fs ds DA dc ⟨q.first, err, ads, A', k'⟩ e w') := by
  have hmem : (g, q) ∈ z.qs := by rw [hqs]; simp
  have hq := (hR.q _ hmem).1
  have hown := hR.qs
  rw [hqs] at hown
  obtain ⟨r, cap, hv, hBr, hrl, hc1, hcm, cur, hcur, hcs, htk⟩ := own_form hown (by simp)
  injection hv with hv1 _ hv3
  have hcur0 : cur[0]? = some (.pointer (some ⟨g, 0, none⟩)) := by
    have h := congrArg (fun l : List Value => l[0]?) htk
    simp only [List.getElem?_take_of_lt (show 0 < [(g, q)].length by simp), Array.getElem?_toList] at h
    exact h
  have b1 : Below w.heap.size w (w.alloc (.cells #[.pointer (some ⟨g, 0, none⟩)] 66)) := al (rf w) _
  have BX : Blk (w.alloc (.cells #[.pointer (some ⟨g, 0, none⟩)] 66)) w.heap.size 66 #[.pointer (some ⟨g, 0, none⟩)] := Blk.new _ _ _
  have HAd := Lib.hid hAd
  have had0 : Hid (AD = none → ads.length = 0) := fun e => by
    rcases Nat.eq_zero_or_pos ads.length with h | h
    · exact h
    · obtain ⟨r2, cap2, hv2, _⟩ := own_form hAd h
      injection hv2 with a
      rw [e] at a
      cases a
  have HR := Lib.hid hR
  have HWk := Lib.hid hW
  have HQ := Lib.hid hq
  have HQS := Lib.hid hqs
  have HCU := Lib.hid hcur
  have HC0 := Lib.hid hcur0
  have HB1 := Lib.hid b1
  have HBX := Lib.hid BX
  have HV1 := Lib.hid hv1
  have HV3 := Lib.hid hv3
  have HTK := Lib.hid htk
  have HCS := Lib.hid hcs
  clear hAd hR hW hq hqs hcur hcur0 b1 BX hv1 hv3 htk hcs hown hmem
  go_enter Tryd.func42, Tryd.ntmps42
  go_wp2
  generalize w.alloc (.cells #[.pointer (some ⟨g, 0, none⟩)] 66) = w1 at HB1 HBX ⊢
  have R1 := Lib.hid (HR.out.nx HB1.out)
  have W1 := Lib.hid (HWk.out.nx HB1.out)
  have CU1 := Lib.hid (HCU.out.nx HB1.out)
  have Q1 := Lib.hid (HQ.out.nx HB1.out)
  have hz1 := HB1.out.size
  obtain ⟨zcs, hzcs⟩ : ∃ zcs, zcs = z.cs := ⟨_, rfl⟩
  have nrw : wb ≠ rb := W1.out.b.ne_ R1.out.b (by decide)
  have nwr : wb ≠ r := W1.out.b.ne_ CU1.out (by decide)
  have nrr : r ≠ rb := CU1.out.ne_ R1.out.b (by decide)
  have hQA : z.QA = some ⟨r, 0, none⟩ := HV1.out
  have hQC : z.qc = cap := HV3.out
  have e0 : ∀ x : Ge w1 rb (fun i => i = r) 64 zcs, x.w.cell? ⟨wb, 0, none⟩ = some (.pointer (some ⟨rb, 0, none⟩)) := fun x => (x.blk W1.out.b nrw nwr).cell 0
  have e3 : ∀ x : Ge w1 rb (fun i => i = r) 64 zcs, x.w.cell? ⟨rb, 3, none⟩ = some (.slice (some ⟨r, 0, none⟩) 1 cap) := fun x => by
    rw [x.z.cell, hzcs]
    show some (Value.slice z.QA z.qs.length z.qc) = _
    rw [hQA, hQC, HQS.out]; rfl
  have RBc : Hid (Blk w1 rb 64 zcs) := by show Blk _ _ _ _; rw [hzcs]; exact R1.out.b
  have hne1 : Nonempty (Ge w1 rb (fun i => i = r) 64 zcs) := ⟨⟨w1, Ce.refl _ _ _, RBc.out⟩⟩
  have HD := delete1 w1.drew g w.heap.size r cap cur hc1 HBX.out ⟨_, _, Q1.out⟩ CU1.out HC0.out
  have HD1 := Lib.hid HD
  have NRR := Lib.hid nrr
  have HZC := Lib.hid hzcs
  clear HD nrw nwr nrr hQA hQC hzcs
  refine wp_region_che rb (fun i => i = r) 64 zcs 15 (by kernel_rfl) (by kernel_rfl) (by kernel_rfl) (by kernel_rfl) RBc.out ?_
  iterate 11 (refine che_early (by kernel_rfl) (by kernel_rfl) (by kernel_rfl) ?_; intro K hK; go_big_quiet_op; go_big_quiet_on)
  refine che_one w1.drew w1.drew (.func (.func 59) #[] #[.pointer (some ⟨w.heap.size, 0, none⟩)]) (by kernel_rfl) (by kernel_rfl) (.inl (by first | rfl | (unfold execOp; simp [go_sem]))) (fun h => h) (fun _ h => h) ?_
  go_frame
  refine che_call w1.drew (w1.drew.setCell ⟨r, 0, none⟩ (.pointer none)) (.slice (some ⟨r, 0, none⟩) 0 cap) 58 #[.slice (some ⟨r, 0, none⟩) 1 cap, .func (.func 59) #[] #[.pointer (some ⟨w.heap.size, 0, none⟩)]] (by kernel_rfl) (by kernel_rfl) (by kernel_rfl) HD1.out (fun hC => ⟨hC.os, hC.tape, hC.output, Nat.le_trans hC.size (by simp [World.setCell]), fun i hi h1 h2 => (Below.heap_setCell w1.drew ⟨r, 0, none⟩ _ i h2).trans (hC.block i hi h1 h2)⟩) (fun _ hz => hz.far (p := ⟨r, 0, none⟩) NRR.out.symm _) ?_
  go_frame
  iterate 2 (refine che_early (by kernel_rfl) (by kernel_rfl) (by kernel_rfl) ?_; intro K hK; go_big_quiet_op; go_big_quiet_on)
  have RB6 : Hid (Blk (w1.drew.setCell ⟨r, 0, none⟩ (.pointer none)) rb 64 zcs) := Blk.far (p := ⟨r, 0, none⟩) (RBc.out.drew) NRR.out.symm _
  have h1 : (w1.drew.setCell ⟨r, 0, none⟩ (.pointer none)).cell? ⟨rb, 3, none⟩ = some (.slice (some ⟨r, 0, none⟩) 1 cap) := by
    rw [RB6.out.cell, HZC.out]
    show some (Value.slice z.QA z.qs.length z.qc) = _
    have a1 : z.QA = some ⟨r, 0, none⟩ := HV1.out
    have a2 : z.qc = cap := HV3.out
    rw [a1, a2, HQS.out]; rfl
  have h2 := RB6.out.frozen 3
  refine che_store (w1.drew.setCell ⟨r, 0, none⟩ (.pointer none)) (by kernel_rfl) 61 (.tmp 22) (.tmp 20) rfl rfl 3 (.slice (some ⟨r, 0, none⟩) 0 cap) rfl rfl (by generalize (w1.drew.setCell ⟨r, 0, none⟩ (.pointer none)) = wq at h1 h2 ⊢; simp [go_sem, h1, h2]) ?_
  go_frame
  refine che_nil ?_
  intro wz hC hz
  have hl1 : [(g, q)].length = 1 := rfl
  have KZ0 : ∀ n ts, n ≤ w1.heap.size → (n ≤ B ∨ (64 ∈ ts ∧ 66 ∈ ts)) → KeepT n ts w1 wz := fun n ts hn ht => by
    rw [hz]
    have k1 : KeepT n ts w1 (w1.drew.setCell ⟨r, 0, none⟩ (.pointer none)) := KeepT.of_set (w := w1.drew) CU1.out _ (by rcases ht with h | h; exact .inl (by omega); exact .inr h.2) hn
    exact k1.trans (KeepT.of_set RB6.out _ (by rcases ht with h | h; exact .inl (by have := R1.out.lo; omega); exact .inr h.1) (by simpa [World.setCell] using hn))
  have KZ1 := Lib.hid (KZ0 w1.heap.size [64, 66] (Nat.le_refl _) (.inr ⟨by simp, by simp⟩))
  have BZ : Hid (Below B w1 wz) := by
    show Below _ _ _
    rw [hz]
    exact (((Below.refl B w1).drew).setCell hBr _).setCell R1.out.lo _
  have RZ : Hid (IsRv wz B rb { z with qs := [], QA := some ⟨r, 0, none⟩, qc := cap }) := by
    refine ⟨?_, R1.out.lo, KZ1.out.own R1.out.sv (by decide), ?_, by simp, by simp⟩
    · have h := RB6.out.set_ 3 (.slice (some ⟨r, 0, none⟩) 0 cap)
      rw [← hz, HZC.out] at h
      exact h
    · have ho := R1.out.qs
      rw [HQS.out] at ho
      rcases ho.2 with ⟨_, h0⟩ | ⟨g2, cap2, cur2, e2, hB2, hh2, a1, a2, a3, a4⟩
      · exact absurd h0 (by simp)
      · injection e2 with e3 _ e5
        have a0 : z.QA = some ⟨r, 0, none⟩ := HV1.out
        rw [a0] at e3
        injection e3 with e3
        injection e3 with e3
        have a6 : z.qc = cap := HV3.out
        rw [a6] at e5
        subst e3 e5
        refine ⟨rfl, .inr ⟨r, cap, cur2.setIfInBounds 0 (.pointer none), rfl, hB2, ?_, Nat.zero_le _, a2, by rw [Array.size_setIfInBounds]; exact a3, by simp⟩⟩
        rw [hz]
        exact Blk.far (p := ⟨rb, 3, none⟩) (Blk.set_ (show Blk w1.drew r _ cur2 from hh2) 0 _) NRR.out _
  have WZ := Lib.hid (W1.out.keep KZ1.out (by decide) (by decide) (by decide) (by decide) (by decide))
  have ADZ : Hid (wz.ownsRow Bx 33 1 (.slice AD ads.length kd) ads.length (ads.map (Value.int .u32))) := KZ1.out.own (HB1.out |> fun k => (KeepT.of_below (ts := []) k (Nat.le_refl _)).own HAd.out (by simp)) (by decide)
  have QZ := Lib.hid (KZ1.out.blk_ Q1.out (by decide))
  have XZ : Hid (Blk wz w.heap.size 66 #[.pointer (some ⟨g, 0, none⟩)]) := by
    show Blk _ _ _ _
    rw [hz]
    exact Blk.far (p := ⟨rb, 3, none⟩) (Blk.far (p := ⟨r, 0, none⟩) (show Blk w1.drew w.heap.size _ _ from HBX.out) (by show w.heap.size ≠ r; omega) _) (HBX.out.ne_ R1.out.b (by decide)) _
  have hzs : Hid (w1.heap.size ≤ wz.heap.size) := by show _ ≤ _; rw [hz]; simp [World.setCell]
  have KN1 := Lib.hid (KZ0 N [64, 66] (by omega) (.inr ⟨by simp, by simp⟩))
  clear e0 e3 hne1 RB6 h1 h2 hC hz KZ0 RBc HD1 hc1 hcm hl1 HCU HC0 HTK HCS CU1
  -- what is found
  obtain ⟨Fv, hFv⟩ : ∃ Fv, Fv = Value.slice FA fs.length fc := ⟨_, rfl⟩
  obtain ⟨wcs, hwcs⟩ : ∃ wcs, wcs = #[ptr rb, .int .i64 now, .int .i64 draw, .slice FA fs.length fc, .slice DA ds.length dc] := ⟨_, rfl⟩
  have own_ne : ∀ {t : TypeId} {i : Nat} {cs : Array Value}, Blk wz i t cs → 39 ≠ t → ¬ (Fv.ownBlock = some i) := fun {t i cs} hb hne => by rw [hFv]; exact own_blk_ne WZ.out.f hb hne
  have ngw : g ≠ wb := QZ.out.ne_ WZ.out.b (by decide)
  have nxw : w.heap.size ≠ wb := XZ.out.ne_ WZ.out.b (by decide)
  have e3 : ∀ x : Ge wz wb (fun i => Fv.ownBlock = some i) 71 wcs, x.w.cell? ⟨wb, 3, none⟩ = some (.slice FA fs.length fc) := fun x => by rw [x.z.cell, hwcs]; rfl
  have ex : ∀ x : Ge wz wb (fun i => Fv.ownBlock = some i) 71 wcs, x.w.cell? ⟨w.heap.size, 0, none⟩ = some (.pointer (some ⟨g, 0, none⟩)) := fun x => (x.blk XZ.out nxw (own_ne XZ.out (by decide))).cell 0
  have eg : ∀ x : Ge wz wb (fun i => Fv.ownBlock = some i) 71 wcs, x.w.cell? ⟨g, 0, none⟩ = some (.string q.first) := fun x => (x.blk QZ.out ngw (own_ne QZ.out (by decide))).cell 0
  have hne1 : Nonempty (Ge wz wb (fun i => Fv.ownBlock = some i) 71 wcs) := ⟨⟨wz, Ce.refl _ _ _, by rw [hwcs]; exact WZ.out.b⟩⟩
  have WBc : Hid (Blk wz wb 71 wcs) := by show Blk _ _ _ _; rw [hwcs]; exact WZ.out.b
  have OFW : Fv.ownBlock ≠ some wb := own_ne WZ.out.b (by decide)
  have HFV := Lib.hid hFv
  obtain ⟨A2, k2, w2, hcl, ho2, hb2⟩ := cloneX wz.drew AD ads.length kd (ads.map (Value.int .u32)) (Reads.of_own ADZ.out.drew) (by intro u hu; obtain ⟨v, _, rfl⟩ := List.mem_map.1 hu; rfl) hads had0.out
  have HCL := Lib.hid hcl
  have HO2 := Lib.hid ho2
  have HB2 : Hid (Below wz.heap.size wz w2) := (rf wz).drew.trans hb2
  clear hcl ho2 hb2
  have HWCS := Lib.hid hwcs
  have hNz : Hid (N ≤ wz.heap.size) := Nat.le_trans hN (Nat.le_trans hz1 hzs.out)
  clear own_ne ngw nxw hFv hwcs
  go_wp2
  refine wp_region_che wb (fun i => Fv.ownBlock = some i) 71 wcs 17 (by kernel_rfl) (by kernel_rfl) (by kernel_rfl) (by kernel_rfl) WBc.out ?_
  iterate 11 (refine che_early (by kernel_rfl) (by kernel_rfl) (by kernel_rfl) ?_; intro K hK; go_big_quiet_op; go_big_quiet_on)
  refine che_call wz.drew w2 (.slice A2 ads.length k2) 18 #[.slice AD ads.length kd] (by kernel_rfl) (by kernel_rfl) (by kernel_rfl) HCL.out (fun hC => (Ce.refl _ _ _).nx HB2.out) (fun _ h => WBc.out.nx HB2.out) ?_
  go_frame
  iterate 1 (refine che_early (by kernel_rfl) (by kernel_rfl) (by kernel_rfl) ?_; intro K hK; go_big_quiet_op; go_big_quiet_on)
  refine che_lit w2 (.cells #[.string q.first, .int .i64 err, .slice A2 ads.length k2] 39) (.slice (some ⟨w2.heap.size, 0, none⟩) 1 1) (by kernel_rfl) (by kernel_rfl) (by first | rfl | (unfold execOp; simp [go_sem])) ?_
  go_frame
  have OW1 : Hid ((w2.alloc (.cells #[.string q.first, .int .i64 err, .slice A2 ads.length k2] 39)).ownsRow N 39 3 Fv fs.length (fs.flatMap Fd.cs)) := by
    show World.ownsRow _ _ _ _ _ _ _
    rw [HFV.out]
    exact ((KeepT.of_below (ts := []) HB2.out (Nat.le_refl _)).own WZ.out.f (by simp)).alloc _
  refine che_app stFd (w2.alloc (.cells #[.string q.first, .int .i64 err, .slice A2 ads.length k2] 39)) (by kernel_rfl) (.tmp 27) (.tmp 36) rfl N Fv fs.length (fs.flatMap Fd.cs) HFV.out.symm OW1.out (fun i h => .inl h) OFW (some ⟨w2.heap.size, 0, none⟩) 1 1 [.string q.first, .int .i64 err, .slice A2 ads.length k2] rfl (reads3 (Blk.new w2 _ _) rfl) (by intro u hu; simp only [List.mem_cons, List.not_mem_nil, or_false] at hu; rcases hu with rfl | rfl | rfl <;> rfl) (by omega) (by omega) (Nat.le_trans hNz.out (Nat.le_trans HB2.out.size (by simp))) (fun v6 w6 own6 gr6 at6 bel6 => ?_)
  obtain ⟨F6, n6, rfl⟩ := own_slice own6
  have O6 := Lib.hid own6
  have G6 := Lib.hid gr6
  have BL6 := Lib.hid bel6
  have WB6 : Hid (Blk w6 wb 71 wcs) := ((WBc.out.nx HB2.out).alloc _).grown gr6 (fun e => OFW e.symm)
  clear own6 gr6 at6 bel6
  go_frame
  iterate 2 (refine che_early (by kernel_rfl) (by kernel_rfl) (by kernel_rfl) ?_; intro K hK; go_big_quiet_op; go_big_quiet_on)
  have h1 : w6.cell? ⟨wb, 3, none⟩ = some (.slice FA fs.length fc) := by rw [WB6.out.cell, HWCS.out]; rfl
  have h2 := WB6.out.frozen 3
  refine che_store w6 (by kernel_rfl) 28 (.tmp 39) (.tmp 37) rfl rfl 3 (.slice F6 (fs.length + 1) n6) rfl rfl (by simp [go_sem, h1, h2]) ?_
  go_frame
  refine che_nil ?_
  intro wy hC hy
  subst hy
  clear e3 ex eg hne1 hC
  have OWs : (w2.alloc (.cells #[.string q.first, .int .i64 err, .slice A2 ads.length k2] 39)).ownsRow N 39 3 (.slice FA fs.length fc) fs.length (fs.flatMap Fd.cs) := by rw [← HFV.out]; exact OW1.out
  have G6s := G6.out
  rw [HFV.out] at G6s
  have kb : Below wz.heap.size wz (w2.alloc (.cells #[.string q.first, .int .i64 err, .slice A2 ads.length k2] 39)) := HB2.out.trans ((al (rf w2) _).mono HB2.out.size)
  have sz1 := kb.size
  have sz2 := G6s.size
  have hNw := hNz.out
  have nwb := WZ.out.lo
  have K1 : ∀ n, n ≤ wz.heap.size → ∀ ts, (n ≤ N ∨ (39 ∈ ts ∧ 71 ∈ ts)) → KeepT n ts wz (w6.setCell ⟨wb, 3, none⟩ (.slice F6 (fs.length + 1) n6)) := fun n hn ts ht => by
    have k1 : KeepT n ts wz (w2.alloc (.cells #[.string q.first, .int .i64 err, .slice A2 ads.length k2] 39)) := KeepT.of_below kb hn
    have k2 : KeepT n ts (w2.alloc (.cells #[.string q.first, .int .i64 err, .slice A2 ads.length k2] 39)) w6 := KeepT.of_row G6s OWs (by rcases ht with h | h; exact .inl h; exact .inr h.1) (by omega)
    have k3 : KeepT n ts w6 (w6.setCell ⟨wb, 3, none⟩ (.slice F6 (fs.length + 1) n6)) := KeepT.of_set WB6.out _ (by rcases ht with h | h; exact .inl (by omega); exact .inr h.2) (by omega)
    exact (k1.trans k2).trans k3
  have KA := K1 wz.heap.size (Nat.le_refl _) [71, 39] (.inr ⟨by simp, by simp⟩)
  have HWd := WZ.out
  have sw2 := HB2.out.size
  have AD6 : (w6.setCell ⟨wb, 3, none⟩ (.slice F6 (fs.length + 1) n6)).ownsRow N 33 1 (.slice A2 ads.length k2) ads.length (ads.map (Value.int .u32)) := by
    have a1 : w2.ownsRow N 33 1 (.slice A2 ads.length k2) ads.length (ads.map (Value.int .u32)) := own_base HO2.out (show N ≤ wz.drew.heap.size from hNw)
    have a2 := (KeepT.of_below (ts := [39, 71]) (al (rf w2) (.cells #[.string q.first, .int .i64 err, .slice A2 ads.length k2] 39)) (Nat.le_refl _)).own a1 (by decide)
    have k2' : KeepT w2.heap.size [39, 71] (w2.alloc (.cells #[.string q.first, .int .i64 err, .slice A2 ads.length k2] 39)) w6 := KeepT.of_row G6s OWs (.inr (by simp)) (by simp)
    have k3' : KeepT w2.heap.size [39, 71] w6 (w6.setCell ⟨wb, 3, none⟩ (.slice F6 (fs.length + 1) n6)) := KeepT.of_set WB6.out _ (.inr (by simp)) (by have := G6s.size; simp at this; omega)
    exact ((KeepT.of_below (ts := [39, 71]) (al (rf w2) (.cells #[.string q.first, .int .i64 err, .slice A2 ads.length k2] 39)) (Nat.le_refl _)).trans (k2'.trans k3')).own a1 (by decide)
  go_wp2
  go_end0
  refine ⟨A2, k2, rfl, F6, n6, some ⟨r, 0, none⟩, cap, RZ.out.keep KA (by decide) (by decide) (by decide) (by decide), ⟨?_, HWd.lo, ?_, KA.own HWd.d (by decide), fun x hx => ?_, fun x hx => KA.own (HWd.dd x hx) (by decide)⟩, ?_, ?_, ?_⟩
  · have h3 := WB6.out.set_ 3 (.slice F6 (fs.length + 1) n6)
    rw [HWCS.out] at h3
    rw [List.length_append]
    exact h3
  · rw [List.length_append, List.flatMap_append]
    exact (KeepT.of_set (i := 3) (ts := [71]) WB6.out (.slice F6 (fs.length + 1) n6) (.inr (by simp)) (Nat.le_refl _)).own O6.out (by decide)
  · rcases List.mem_append.1 hx with hx | hx
    · exact KA.own (HWd.fd x hx) (by decide)
    · obtain rfl := List.mem_singleton.1 hx
      exact AD6
  · exact ((KeepT.of_below HB1.out (Nat.le_refl _)).trans ((KZ1.out.mono (by decide)).less hz1)).trans ((KA.mono (by decide)).less (by have := hzs.out; omega))
  · exact ((KeepT.of_below HB1.out hN).trans KN1.out).trans ((K1 N hNw [] (.inl (Nat.le_refl _))).mono (by decide))
  · exact (((HB1.out.mono (by omega)).trans BZ.out).trans ((kb.mono (by omega)).trans (BL6.out.mono hBN))).setCell (Nat.le_trans hBN nwb) _
end
section
open Go.RowKit Go.Maps

def lookL (L : List (Nat × En)) (now : Int) (nm : ByteArray) : Option (Nat × En) :=
  match L.find? fun p => decide (p.2.key = lowS nm) with
  | none => none
  | some p => if now < p.2.behind then some p else none
def chase (L : List (Nat × En)) (now : Int) : Nat → ByteArray → Int → Option (Int × List Int) × ByteArray × Int
  | 0, nm, fo => (none, nm, fo)
  | n + 1, nm, fo => match lookL L now nm with
    | none => (none, nm, fo)
    | some p => if p.2.leads = false then (some (0, p.2.ad), nm, fo) else if 8 < fo + 1 then (some (10, []), nm, fo + 1) else chase L now n p.2.cname (fo + 1)
theorem chase_none {L : List (Nat × En)} {now : Int} {n : Nat} {nm : ByteArray} {fo : Int} (h : lookL L now nm = none) : chase L now n nm fo = (none, nm, fo) := by
  cases n with
  | zero => rfl
  | succ n => unfold chase; rw [h]
theorem chase_end {L : List (Nat × En)} {now : Int} {n : Nat} {nm : ByteArray} {fo : Int} {p : Nat × En} (h : lookL L now nm = some p) (hl : p.2.leads = false) : chase L now (n + 1) nm fo = (some (0, p.2.ad), nm, fo) := by
  unfold chase; rw [h]; simp [hl]
theorem chase_over {L : List (Nat × En)} {now : Int} {n : Nat} {nm : ByteArray} {fo : Int} {p : Nat × En} (h : lookL L now nm = some p) (hl : p.2.leads = true) (hf : 8 < fo + 1) : chase L now (n + 1) nm fo = (some (10, []), nm, fo + 1) := by
  unfold chase; rw [h]; simp [hl, hf]
theorem chase_on {L : List (Nat × En)} {now : Int} {n : Nat} {nm : ByteArray} {fo : Int} {p : Nat × En} (h : lookL L now nm = some p) (hl : p.2.leads = true) (hf : ¬ 8 < fo + 1) : chase L now (n + 1) nm fo = chase L now n p.2.cname (fo + 1) := by
  conv => lhs; unfold chase
  rw [h]; simp [hl, hf]
theorem find_none {L : List (Nat × En)} {s : ByteArray} (h : (L.find? fun p => decide (p.2.key = s)) = none) : inL L s = false := by
  unfold inL
  rw [List.any_eq_false]
  intro p hp
  exact List.find?_eq_none.1 h p hp
def entP : Option (Nat × En) → Value
  | none => .pointer none
  | some p => .pointer (some ⟨p.1, 0, none⟩)
theorem haveK (w : World) (wb rb B km : Nat) (AA : Option Addr) (ac : Nat) (L : List (Nat × En)) (D : DataW Unit) (s : ByteArray) (hs : s.size ≤ 1000000) (now : Int) (WC RC : Array Value) (hw : Blk w wb 71 WC) (hw0 : WC[0]? = some (.pointer (some ⟨rb, 0, none⟩))) (hw1 : WC[1]? = some (.int .i64 now)) (hr : Blk w rb 64 RC) (hr4 : RC[4]? = some (.map (some km))) (hk : IsKp w B km AA ac L D) :
    (∀ p, lookL L now s = some p → p ∈ L) ∧ Calls Tryd.prog 44 #[.pointer (some ⟨wb, 0, none⟩), .string s] w fun e w' => e = .returned (entP (lookL L now s)) ∧ Below w.heap.size w w' := by
  unfold lookL
  cases hf : L.find? fun p => decide (p.2.key = lowS s) with
  | none => exact ⟨fun p h => by simp at h, haveN w wb rb B km AA ac L D s hs WC RC hw hw0 hr hr4 hk (find_none hf)⟩
  | some p =>
    have hm := List.mem_of_find?_eq_some hf
    have hp : p.2.key = lowS s := by simpa using List.find?_some hf
    refine ⟨fun p2 h => ?_, (haveS w wb rb B km AA ac L D s hs now WC RC hw hw0 hw1 hr hr4 hk p hm hp).mono fun e w' h => ⟨h.1.trans ?_, h.2⟩⟩
    · by_cases hn : now < p.2.behind
      · simp only [hn, if_true, Option.some.injEq] at h; subst h; exact hm
      · simp [hn] at h
    · by_cases hn : now < p.2.behind
      · simp [hn, entP]
      · simp [hn, entP]
structure Gl (w wr : World) (B N wb rb g : Nat) (z : Rz) (now draw : Int) (fs : List Fd) (FA : Option Addr) (fc : Nat) (ds : List Dg) (DA : Option Addr) (dc : Nat) (AA : Option Addr) (ac : Nat) (L : List (Nat × En)) (D : DataW Unit) (q' : Qn) : Prop where
  R : IsRv wr B rb { z with qs := [(g, q')] }
  W : IsWk wr N wb rb now draw fs FA fc ds DA dc
  K : IsKp wr B z.km AA ac L D
  k : KeepT w.heap.size [68, 64] w wr
  n : KeepT N [68, 64] w wr
  b : Below B w wr
  m : MaxL wr
section
variable {w wr w1 : World} {B N wb rb g : Nat} {z : Rz} {now draw : Int} {fs : List Fd} {FA : Option Addr} {fc : Nat} {ds : List Dg} {DA : Option Addr} {dc : Nat} {AA : Option Addr} {ac : Nat} {L : List (Nat × En)} {D : DataW Unit} {q q' q2 : Qn}
theorem Gl.blk (h : Gl w wr B N wb rb g z now draw fs FA fc ds DA dc AA ac L D q') : Blk wr g 68 q'.cs ∧ B ≤ g := h.R.q (g, q') (by simp)
theorem Gl.nx (h : Gl w wr B N wb rb g z now draw fs FA fc ds DA dc AA ac L D q') (hBN : B ≤ N) (hN : N ≤ w.heap.size) (k : Below wr.heap.size wr w1) : Gl w w1 B N wb rb g z now draw fs FA fc ds DA dc AA ac L D q' := by
  have hs := h.b.size
  exact ⟨h.R.nx k, h.W.nx k, h.K.nx k, h.k.trans (KeepT.of_below k hs), h.n.trans (KeepT.of_below k (by omega)), h.b.trans (k.mono (by omega)), h.m.nx k⟩
theorem Gl.set (h : Gl w wr B N wb rb g z now draw fs FA fc ds DA dc AA ac L D q') (hBN : B ≤ N) (hN : N ≤ w.heap.size)
    (t : T4 wr w1 g rb wb q2.cs ({ z with qs := [(g, q')] } : Rz).cs #[ptr rb, .int .i64 now, .int .i64 draw, .slice FA fs.length fc, .slice DA ds.length dc]) : Gl w w1 B N wb rb g z now draw fs FA fc ds DA dc AA ac L D q2 := by
  have hs := h.b.size
  have hq := h.blk
  have r := h.R.of4 (s := z.sent) t ⟨q', by simp⟩
  have e : ({ ({ z with qs := [(g, q')] } : Rz).upd g q2 with sent := z.sent } : Rz) = { z with qs := [(g, q2)] } := by
    have h := upd_one (z := { z with qs := [(g, q')] }) (q' := q2) rfl
    unfold Rz.upd at h ⊢
    simp only at h ⊢
    rw [h]
  rw [e] at r
  have kk := t.keep (n := wr.heap.size) hq.1 h.R.b
  exact ⟨r, h.W.of4 t hq.1 h.R.b, h.K.keep kk (by decide) (by decide) (by decide) (by decide), h.k.trans (kk.less hs), h.n.trans (kk.less (by omega)), h.b.trans (t.below hq.2 h.R.lo), h.m.of4 t hq.1 h.R.b⟩
end
def GkP (w : World) (B N wb rb g : Nat) (z : Rz) (now draw : Int) (fs : List Fd) (FA : Option Addr) (fc : Nat) (ds : List Dg) (DA : Option Addr) (dc : Nat) (L : List (Nat × En)) (q : Qn) (e : Ending) (w' : World) : Prop :=
  e = .returned (.tuple #[]) ∧ KeepT w.heap.size [68, 64, 71, 36, 39, 66] w w' ∧ KeepT N [68, 64, 66] w w' ∧ Below B w w' ∧
  ((∃ err ads nm fo A' k' FA' fc' QA' qc', chase L now (9 - q.follows).toNat q.name q.follows = (some (err, ads), nm, fo) ∧ IsRv w' B rb { z with qs := [], QA := QA', qc := qc' } ∧ IsWk w' N wb rb now draw (fs ++ [⟨q.first, err, ads, A', k'⟩]) FA' fc' ds DA dc) ∨
   (∃ nm fo A k DA' dc', chase L now (9 - q.follows).toNat q.name q.follows = (none, nm, fo) ∧ IsRv w' B rb { z with sent := z.sent + 1, qs := [(g, ({ q with name := nm, follows := fo } : Qn).zero.ask (idV draw z.sent) now)] } ∧ IsWk w' N wb rb now draw fs FA fc (ds ++ [⟨z.port, svAt z 0, askB (idV draw z.sent) nm, A, k⟩]) DA' dc'))
theorem gk_end {w wr w' : World} {B N wb rb g : Nat} {z : Rz} {now draw : Int} {fs : List Fd} {FA : Option Addr} {fc : Nat} {ds : List Dg} {DA : Option Addr} {dc : Nat} {AA : Option Addr} {ac : Nat} {L : List (Nat × En)} {D : DataW Unit} {q q' : Qn} {e : Ending} {err : Int} {ads : List Int} {A' : Option Addr} {k' : Nat} {nm : ByteArray} {fo : Int}
    (h : Gl w wr B N wb rb g z now draw fs FA fc ds DA dc AA ac L D q') (hN : N ≤ w.heap.size) (hf : q'.first = q.first) (hc : chase L now (9 - q.follows).toNat q.name q.follows = (some (err, ads), nm, fo))
    (hE : EndP wr B N wb rb { z with qs := [(g, q')] } now draw fs ds DA dc ⟨q'.first, err, ads, A', k'⟩ e w') : GkP w B N wb rb g z now draw fs FA fc ds DA dc L q e w' := by
  obtain ⟨he, FA', fc', QA', qc', r, wk, k1, k2, b⟩ := hE
  rw [hf] at wk
  have hs := h.b.size
  exact ⟨he, (h.k.mono (by decide)).trans ((k1.mono (by decide)).less hs), (h.n.mono (by decide)).trans (k2.mono (by decide)), h.b.trans b, .inl ⟨err, ads, nm, fo, A', k', FA', fc', QA', qc', hc, r, wk⟩⟩
def foAt (w : World) (g : Nat) : Nat := match w.cell? ⟨g, 2, none⟩ with
  | some (.int _ v) => (9 - v).toNat
  | _ => 0
theorem Gl.fo {w wr : World} {B N wb rb g : Nat} {z : Rz} {now draw : Int} {fs : List Fd} {FA : Option Addr} {fc : Nat} {ds : List Dg} {DA : Option Addr} {dc : Nat} {AA : Option Addr} {ac : Nat} {L : List (Nat × En)} {D : DataW Unit} {q' : Qn} (h : Gl w wr B N wb rb g z now draw fs FA fc ds DA dc AA ac L D q') : foAt wr g = (9 - q'.follows).toNat := by
  have h2 : wr.cell? ⟨g, 2, none⟩ = some (.int .i64 q'.follows) := h.blk.1.cell 2
  unfold foAt
  rw [h2]
set_option maxRecDepth 100000 in
set_option maxHeartbeats 1600000 in
theorem goesK (w : World) (B N wb rb g : Nat) (z : Rz) (now draw : Int) (fs : List Fd) (FA : Option Addr) (fc : Nat) (ds : List Dg) (DA : Option Addr) (dc : Nat) (AA : Option Addr) (ac : Nat) (L : List (Nat × En)) (D : DataW Unit) (q : Qn)
    (hR : IsRv w B rb z) (hW : IsWk w N wb rb now draw fs FA fc ds DA dc) (hqs : z.qs = [(g, q)]) (hK : IsKp w B z.km AA ac L D) (hm : MaxL w) (f0 : 0 ≤ q.follows) (f1 : q.follows ≤ 8)
    (hcn : ∀ p ∈ L, p.2.leads = true → isN p.2.cname.data.toList = true ∧ p.2.cname.size ≤ 3000) (had : ∀ p ∈ L, p.2.ad.length ≤ 1000000)
    (hn : isN q.name.data.toList = true) (hns : q.name.size ≤ 3000) (s1 : 1 ≤ z.sv.length) (hsv : z.sv.length ≤ 3) (n0 : 0 ≤ now) (n1 : now ≤ 1152921504606846976) (e0 : 0 ≤ z.sent) (e1 : z.sent ≤ 1152921504606846976)
    (hfs : fs.length ≤ 1000000) (hds : ds.length ≤ 1000000) (hBN : B ≤ N) (hN : N ≤ w.heap.size) :
    Calls Tryd.prog 20 #[.pointer (some ⟨wb, 0, none⟩), .pointer (some ⟨g, 0, none⟩)] w (GkP w B N wb rb g z now draw fs FA fc ds DA dc L q) := by
  have ez : ({ z with qs := [(g, q)] } : Rz) = z := by cases z; simp only at hqs; rw [hqs]
  have G0 : Hid (Gl w w B N wb rb g z now draw fs FA fc ds DA dc AA ac L D q) := ⟨by rw [ez]; exact hR, hW, hK, KeepT.refl, KeepT.refl, Below.refl _ _, hm⟩
  have HCN := Lib.hid hcn
  have HAD := Lib.hid had
  clear hR hW hK hm hqs ez hcn had
  go_enter Tryd.func20, Tryd.ntmps20
  go_wp2
  go_step3
  go_wp2
  go_step3
  go_wp2
  go_loopw [4] (fun v ws => ∃ q', Hid (Gl w ws B N wb rb g z now draw fs FA fc ds DA dc AA ac L D q' ∧ q' = { q with name := q'.name, follows := q'.follows } ∧ 0 ≤ q'.follows ∧ q'.follows ≤ 8 ∧ isN q'.name.data.toList = true ∧ q'.name.size ≤ 3000 ∧ chase L now (9 - q.follows).toNat q.name q.follows = chase L now (9 - q'.follows).toNat q'.name q'.follows)) (fun _ ws => foAt ws g)
  case atStart => exact ⟨q, G0.out, rfl, f0, f1, hn, hns, rfl⟩
  case round =>
    obtain ⟨q', HL⟩ := hrel
    have GL := Lib.hid HL.out.1
    have HEQ := Lib.hid HL.out.2.1
    have HNM := Lib.hid HL.out.2.2.2.2.1
    have HCH := Lib.hid HL.out.2.2.2.2.2.2
    have g0 : 0 ≤ q'.follows := HL.out.2.2.1
    have g1 : q'.follows ≤ 8 := HL.out.2.2.2.1
    have g2 : q'.name.size ≤ 3000 := HL.out.2.2.2.2.2.1
    have q1 : wr.cell? ⟨g, 1, none⟩ = some (.string q'.name) := GL.out.blk.1.cell 1
    obtain ⟨hin, hcall⟩ := haveK wr wb rb B z.km AA ac L D q'.name (by omega) now _ _ GL.out.W.b rfl rfl GL.out.R.b rfl GL.out.K
    have HIN := Lib.hid hin
    have HCALL := Lib.hid hcall
    obtain ⟨o, ho⟩ : ∃ o, o = lookL L now q'.name := ⟨_, rfl⟩
    rw [← ho] at hcall
    have HCALL := Lib.hid hcall
    have HO := Lib.hid ho
    clear hin hcall ho HL
    go_wp2_with fail
    refine HCALL.out.mono ?_
    rintro e w1 ⟨rfl, b1⟩
    have G1 := Lib.hid (GL.out.nx hBN hN b1)
    have hz1 := G1.out.b.size
    clear q1 b1 HCALL
    cases o with
    | none =>
      unfold entP
      have CE := Lib.hid (HCH.out.trans (chase_none HO.out.symm))
      have x0 : w1.cell? ⟨wb, 0, none⟩ = some (.pointer (some ⟨rb, 0, none⟩)) := G1.out.W.b.cell 0
      have r3 : w1.cell? ⟨rb, 3, none⟩ = some (.slice z.QA 1 z.qc) := G1.out.R.b.cell 3
      have HC := containsC w1 z.QA z.qc [g] g (by have := Reads.of_own G1.out.R.qs; exact this) (by simp) ⟨_, _, G1.out.blk.1⟩ G1.out.R.isB
      rw [show [g].contains g = true from by simp] at HC
      have HC1 := Lib.hid HC
      have q5 : w1.cell? ⟨g, 5, none⟩ = some (.int .i64 q'.asked) := G1.out.blk.1.cell 5
      have q4 : w1.cell? ⟨g, 4, none⟩ = some (.int .i64 q'.server) := G1.out.blk.1.cell 4
      have f5 := G1.out.blk.1.frozen 5
      have f4 := G1.out.blk.1.frozen 4
      clear HC
      go_wp2_with fail
      refine HC1.out.mono ?_
      rintro e w2 ⟨rfl, hw2⟩
      have hw3 := hw2.symm
      subst hw3
      clear hw2 HC1
      go_wp2_with fail
      have T0 := Lib.hid (T4.start G1.out.blk.1 G1.out.R.b G1.out.W.b)
      have T1 : Hid (T4 w1 ((w1.setCell ⟨g, 5, none⟩ (.int .i64 0)).setCell ⟨g, 4, none⟩ (.int .i64 0)) g rb wb q'.zero.cs ({ z with qs := [(g, q')] } : Rz).cs #[ptr rb, .int .i64 now, .int .i64 draw, .slice FA fs.length fc, .slice DA ds.length dc]) := (T0.out.setG 5 _).setG 4 _
      generalize (w1.setCell ⟨g, 5, none⟩ (.int .i64 0)).setCell ⟨g, 4, none⟩ (.int .i64 0) = w7 at T1 ⊢
      have G7 := Lib.hid (G1.out.set hBN hN T1.out)
      have hz7 := G7.out.b.size
      refine (asksC w7 B N wb rb g { z with qs := [(g, q'.zero)] } now draw fs FA fc ds DA dc q'.zero G7.out.R G7.out.W (by simp) G7.out.m HNM.out g2 (Int.le_refl 0) (by show (0 : Int) < z.sv.length; omega) hsv n0 n1 (Int.le_refl 0) (by show (0 : Int) ≤ 1000; omega) e0 e1 hds hBN (by omega)).mono ?_
      rintro e w8 ⟨rfl, A8, k8, D8, d8, R8, W8, K8, N8, B8⟩
      have e8 : ({ ({ z with qs := [(g, q'.zero)] } : Rz).upd g (q'.zero.ask (idV draw z.sent) now) with sent := z.sent + 1 } : Rz) = { z with sent := z.sent + 1, qs := [(g, q'.zero.ask (idV draw z.sent) now)] } := by
        have h := upd_one (z := { z with qs := [(g, q'.zero)] }) (q' := q'.zero.ask (idV draw z.sent) now) rfl
        unfold Rz.upd at h ⊢
        simp only at h ⊢
        rw [h]
      have R9 := R8
      rw [e8] at R9
      have HP : Hid (GkP w B N wb rb g z now draw fs FA fc ds DA dc L q (.returned (.tuple #[])) w8) := by
        refine ⟨rfl, (G7.out.k.mono (by decide)).trans ((K8.mono (by decide)).less hz7), (G7.out.n.mono (by decide)).trans (N8.mono (by decide)), G7.out.b.trans B8, .inr ⟨q'.name, q'.follows, A8, k8, D8, d8, CE.out, ?_, W8⟩⟩
        rw [← HEQ.out]
        exact R9
      clear R8 W8 K8 N8 B8 R9 e8 q4 q5 f4 f5
      go_wp2
      go_end0
      exact HP.out
    | some p =>
      unfold entP
      have hp := HIN.out p HO.out.symm
      have HP := Lib.hid hp
      have ft : (9 - q'.follows).toNat = (8 - q'.follows).toNat + 1 := by omega
      have hfr : q'.first = q.first := by have := congrArg Qn.first HEQ.out; exact this
      have EB := Lib.hid (G1.out.K.e p hp).1
      have l2 : w1.cell? ⟨p.1, 2, none⟩ = some (.bool p.2.leads) := EB.out.cell 2
      have l3 : w1.cell? ⟨p.1, 3, none⟩ = some (.slice p.2.A p.2.ad.length p.2.k) := EB.out.cell 3
      cases hl : p.2.leads with
      | false =>
        rw [hl] at l2
        have CE : Hid (chase L now (9 - q.follows).toNat q.name q.follows = (some (0, p.2.ad), q'.name, q'.follows)) := HCH.out.trans (by rw [ft]; exact chase_end HO.out.symm hl)
        have HE := Lib.hid (endsK w1 B N wb rb g { z with qs := [(g, q')] } now draw fs FA fc ds DA dc q' 0 B p.2.A p.2.ad p.2.k G1.out.R G1.out.W rfl (G1.out.K.ad p hp) (HAD.out p hp) hfs hBN (by omega))
        clear hp
        go_wp2_with fail
        refine HE.out.mono ?_
        rintro e w2 ⟨A', k', h2⟩
        have H2 := Lib.hid (gk_end G1.out hN hfr CE.out h2)
        obtain ⟨rfl, _⟩ := h2
        go_wp2
        go_end0
        exact H2.out
      | true =>
        rw [hl] at l2
        have q2c : w1.cell? ⟨g, 2, none⟩ = some (.int .i64 q'.follows) := G1.out.blk.1.cell 2
        have fr2 := G1.out.blk.1.frozen 2
        have c1' : w1.cell? ⟨p.1, 1, none⟩ = some (.string p.2.cname) := EB.out.cell 1
        have ngp : p.1 ≠ g := EB.out.ne_ G1.out.blk.1 (by decide)
        have T0 := Lib.hid (T4.start G1.out.blk.1 G1.out.R.b G1.out.W.b)
        have T1 : Hid (T4 w1 (w1.setCell ⟨g, 2, none⟩ (.int .i64 (q'.follows + 1))) g rb wb ({ q' with follows := q'.follows + 1 } : Qn).cs ({ z with qs := [(g, q')] } : Rz).cs #[ptr rb, .int .i64 now, .int .i64 draw, .slice FA fs.length fc, .slice DA ds.length dc]) := T0.out.setG 2 _
        by_cases hf : 8 < q'.follows + 1
        · have CE : Hid (chase L now (9 - q.follows).toNat q.name q.follows = (some (10, []), q'.name, q'.follows + 1)) := HCH.out.trans (by rw [ft]; exact chase_over HO.out.symm hl hf)
          go_wp2_with fail
          generalize w1.setCell ⟨g, 2, none⟩ (.int .i64 (q'.follows + 1)) = w7 at T1 ⊢
          have G7 := Lib.hid (G1.out.set hBN hN T1.out)
          have hz7 := G7.out.b.size
          refine (endsK w7 B N wb rb g { z with qs := [(g, { q' with follows := q'.follows + 1 })] } now draw fs FA fc ds DA dc { q' with follows := q'.follows + 1 } 10 B none [] 0 G7.out.R G7.out.W rfl (World.ownsRow_nil _ _ _ _) (by simp) hfs hBN (by omega)).mono ?_
          rintro e w2 ⟨A', k', h2⟩
          have H2 := Lib.hid (gk_end G7.out hN hfr CE.out h2)
          obtain ⟨rfl, _⟩ := h2
          go_wp2
          go_end0
          exact H2.out
        · have CE : Hid (chase L now (9 - q.follows).toNat q.name q.follows = chase L now (8 - q'.follows).toNat p.2.cname (q'.follows + 1)) := HCH.out.trans (by rw [ft]; exact chase_on HO.out.symm hl hf)
          have q1c : w1.cell? ⟨g, 1, none⟩ = some (.string q'.name) := G1.out.blk.1.cell 1
          have fr1 := G1.out.blk.1.frozen 1
          have CN := Lib.hid (HCN.out p hp hl)
          have T2 : Hid (T4 w1 ((w1.setCell ⟨g, 2, none⟩ (.int .i64 (q'.follows + 1))).setCell ⟨g, 1, none⟩ (.string p.2.cname)) g rb wb ({ q' with follows := q'.follows + 1, name := p.2.cname } : Qn).cs ({ z with qs := [(g, q')] } : Rz).cs #[ptr rb, .int .i64 now, .int .i64 draw, .slice FA fs.length fc, .slice DA ds.length dc]) := T1.out.setG 1 _
          go_wp2
          go_roundw
          all_goals generalize (w1.setCell ⟨g, 2, none⟩ (.int .i64 (q'.follows + 1))).setCell ⟨g, 1, none⟩ (.string p.2.cname) = w7 at T2 ⊢
          all_goals have G7 := Lib.hid (G1.out.set hBN hN T2.out)
          case rel => exact ⟨_, ⟨G7.out, by have := HEQ.out; rw [this], by show 0 ≤ q'.follows + 1; omega, by show q'.follows + 1 ≤ 8; omega, CN.out.1, CN.out.2, by rw [CE.out]; show _ = chase L now (9 - (q'.follows + 1)).toNat _ _; rw [show 9 - (q'.follows + 1) = 8 - q'.follows by omega]⟩⟩
          case measure => rw [G7.out.fo, GL.out.fo]; show (9 - (q'.follows + 1)).toNat < _; omega
end
section
open Go.RowKit Go.Maps

-- an entry without its place
structure Pe where
  (key cname : ByteArray)
  leads : Bool
  ad : List Int
  behind : Int
def En.pl (e : En) : Pe := ⟨e.key, e.cname, e.leads, e.ad, e.behind⟩
def untilV (now t : Int) : Int := if t = 0 then now + 1 else now + 10 * t
def ofA (nm : ByteArray) (r : Rc) : Bool := decide (r.c = 1) && decide (r.t = 1) && (low r.nm == low nm)
def adsOf (nm : ByteArray) (l : List Rc) : List Int := (l.filter (ofA nm)).map fun r => ((addrN r.da : Nat) : Int)
def leastOf (nm : ByteArray) (u : Int) (l : List Rc) : Int := (l.filter (ofA nm)).foldl (fun a r => if r.u < a then r.u else a) u
def inD (done : List ByteArray) (s : ByteArray) : Bool := done.any fun t => decide (t = s)
def keepL (now : Int) : List ByteArray → List Rc → List Pe
  | _, [] => []
  | done, x :: l =>
    if x.c ≠ 1 then keepL now done l
    else if x.t = 5 then ⟨lowS x.nm, ⟨x.da.toArray⟩, true, [], untilV now x.u⟩ :: keepL now done l
    else if x.t = 1 ∧ inD done (lowS x.nm) = false then ⟨lowS x.nm, ⟨#[]⟩, false, adsOf x.nm (x :: l), untilV now (leastOf x.nm x.u (x :: l))⟩ :: keepL now (lowS x.nm :: done) l
    else keepL now done l
section
variable {now : Int} {done : List ByteArray} {l : List Rc} {k : Nat} {x : Rc}
theorem drop_at (h : l[k]? = some x) : l.drop k = x :: l.drop (k + 1) := by
  obtain ⟨hk, rfl⟩ := List.getElem?_eq_some_iff.1 h
  exact List.drop_eq_getElem_cons hk
theorem keep_class (h : l[k]? = some x) (hc : x.c ≠ 1) : keepL now done (l.drop k) = keepL now done (l.drop (k + 1)) := by
  rw [drop_at h]; conv => lhs; unfold keepL
  rw [if_pos hc]
theorem keep_lead (h : l[k]? = some x) (hc : x.c = 1) (ht : x.t = 5) : keepL now done (l.drop k) = ⟨lowS x.nm, ⟨x.da.toArray⟩, true, [], untilV now x.u⟩ :: keepL now done (l.drop (k + 1)) := by
  rw [drop_at h]; conv => lhs; unfold keepL
  rw [if_neg (by simp [hc]), if_pos ht]
theorem keep_ads (h : l[k]? = some x) (hc : x.c = 1) (ht : x.t = 1) (hd : inD done (lowS x.nm) = false) : keepL now done (l.drop k) = ⟨lowS x.nm, ⟨#[]⟩, false, adsOf x.nm (l.drop k), untilV now (leastOf x.nm x.u (l.drop k))⟩ :: keepL now (lowS x.nm :: done) (l.drop (k + 1)) := by
  rw [drop_at h]; conv => lhs; unfold keepL
  rw [if_neg (by simp [hc]), if_neg (by omega), if_pos ⟨ht, hd⟩]
theorem keep_skip (h : l[k]? = some x) (ht : x.t ≠ 5) (hd : ¬ (x.t = 1 ∧ inD done (lowS x.nm) = false)) : keepL now done (l.drop k) = keepL now done (l.drop (k + 1)) := by
  rw [drop_at h]; conv => lhs; unfold keepL
  rw [if_neg ht, if_neg hd]
  split <;> rfl
theorem keep_end (h : l.length ≤ k) : keepL now done (l.drop k) = [] := by
  rw [List.drop_eq_nil_of_le h]; rfl
end
section
variable {nm : ByteArray} {l : List Rc} {k : Nat} {x : Rc} {u : Int}
theorem ads_yes (h : l[k]? = some x) (hx : ofA nm x = true) : adsOf nm (l.take (k + 1)) = adsOf nm (l.take k) ++ [((addrN x.da : Nat) : Int)] := by
  obtain ⟨hk, rfl⟩ := List.getElem?_eq_some_iff.1 h
  unfold adsOf
  rw [List.take_succ_eq_append_getElem hk, List.filter_append, List.map_append]
  simp [hx]
theorem ads_no (h : l[k]? = some x) (hx : ofA nm x = false) : adsOf nm (l.take (k + 1)) = adsOf nm (l.take k) := by
  obtain ⟨hk, rfl⟩ := List.getElem?_eq_some_iff.1 h
  unfold adsOf
  rw [List.take_succ_eq_append_getElem hk, List.filter_append, List.map_append]
  simp [hx]
theorem least_yes (h : l[k]? = some x) (hx : ofA nm x = true) : leastOf nm u (l.take (k + 1)) = if x.u < leastOf nm u (l.take k) then x.u else leastOf nm u (l.take k) := by
  obtain ⟨hk, rfl⟩ := List.getElem?_eq_some_iff.1 h
  unfold leastOf
  rw [List.take_succ_eq_append_getElem hk, List.filter_append, List.foldl_append]
  simp [hx]
theorem least_no (h : l[k]? = some x) (hx : ofA nm x = false) : leastOf nm u (l.take (k + 1)) = leastOf nm u (l.take k) := by
  obtain ⟨hk, rfl⟩ := List.getElem?_eq_some_iff.1 h
  unfold leastOf
  rw [List.take_succ_eq_append_getElem hk, List.filter_append, List.foldl_append]
  simp [hx]
theorem ads_len (nm : ByteArray) (l : List Rc) : (adsOf nm l).length ≤ l.length := by
  unfold adsOf
  rw [List.length_map]
  exact List.length_filter_le _ _
theorem least_in (nm : ByteArray) : ∀ (l : List Rc) (u : Int), (0 ≤ u ∧ u ≤ 2147483647) → (∀ r ∈ l, 0 ≤ r.u ∧ r.u ≤ 2147483647) → 0 ≤ leastOf nm u l ∧ leastOf nm u l ≤ 2147483647 := by
  intro l
  induction l with
  | nil => intro u h _; exact h
  | cons x l ih =>
    intro u h hl
    unfold leastOf at ih ⊢
    rw [List.filter_cons]
    split
    · rw [List.foldl_cons]
      refine ih _ ?_ (fun r hr => hl r (List.mem_cons_of_mem _ hr))
      split
      · exact hl x (List.mem_cons_self ..)
      · exact h
    · exact ih u h (fun r hr => hl r (List.mem_cons_of_mem _ hr))
end
-- what is to be laid is new, and there is room
theorem new_of {L : List (Nat × En)} {e : Pe} {R T : List Pe} (h : (L.map fun p => p.2.pl) ++ e :: R = T) (hp : T.Pairwise fun a b => a.key ≠ b.key) (hl : T.length ≤ 64) : inL L e.key = false ∧ L.length < 64 := by
  subst h
  constructor
  · unfold inL
    rw [List.any_eq_false]
    intro p hpm
    have h2 := (List.pairwise_append.1 hp).2.2 p.2.pl (List.mem_map.2 ⟨p, hpm, rfl⟩) e (List.mem_cons_self ..)
    simpa [En.pl] using h2
  · rw [List.length_append, List.length_map, List.length_cons] at hl
    omega
theorem next_of {L : List (Nat × En)} {e : Pe} {R T : List Pe} {g : Nat} {x : En} (h : (L.map fun p => p.2.pl) ++ e :: R = T) (hx : x.pl = e) : ((L ++ [(g, x)]).map fun p => p.2.pl) ++ R = T := by
  rw [List.map_append, List.append_assoc]
  simpa [hx] using h
-- a map of numbers
def rI : Value → Option (DataW Unit × List MemPlace)
  | .int .i64 v => some (.lit (.int .i64 v), [])
  | _ => none
theorem rI_inv (v : Value) (y : DataW Unit × List MemPlace) (h : rI v = some y) : ∃ i, v = .int .i64 i ∧ y = (.lit (.int .i64 i), []) := by
  unfold rI at h
  split at h
  · injection h with h; exact ⟨_, rfl, h.symm⟩
  · cases h
def DoneIs (w : World) (dm n : Nat) (done : List ByteArray) : Prop :=
  ∃ D : DataW Unit, w.ownsMap Tryd.prog 9 rI dm n D ∧ ∀ s : ByteArray, s.size ≤ maxLen → D.atKey (.string s.data.toList) (.lit (.int .i64 0)) = .lit (.int .i64 (if inD done s then 1 else 0))
theorem zeroI (w : World) : (zeroValue 3).run Tryd.prog w = .ok (.int .i64 0) w := by kernel_rfl
section
variable {w w' : World} {dm n : Nat} {done : List ByteArray}
theorem DoneIs.new (w : World) : DoneIs (w.alloc (.map #[] 0)) w.heap.size 0 [] :=
  ⟨_, World.ownsMap_made w _ _ _, fun s _ => rfl⟩
theorem DoneIs.lt (h : DoneIs w dm n done) : dm < w.heap.size := by
  obtain ⟨D, h, _⟩ := h
  exact World.ownsMap.lt h
theorem DoneIs.at_ (h : DoneIs w dm n done) (k : w'.heap[dm]? = w.heap[dm]?) : DoneIs w' dm n done := by
  obtain ⟨D, ⟨es, c, hb, r⟩, h2⟩ := h
  exact ⟨D, ⟨es, c, k.trans hb, r⟩, h2⟩
theorem DoneIs.nx (h : DoneIs w dm n done) (k : Below w.heap.size w w') : DoneIs w' dm n done := h.at_ (k.block dm h.lt)
theorem DoneIs.mono {m : Nat} (h : DoneIs w dm n done) (k : n ≤ m) : DoneIs w dm m done := by
  obtain ⟨D, h1, h2⟩ := h
  exact ⟨D, h1.mono k, h2⟩
theorem DoneIs.ne (h : DoneIs w dm n done) {g : Nat} {t : TypeId} {cs : Array Value} (hb : Blk w g t cs) : g ≠ dm := fun e => by
  obtain ⟨D, ⟨es, c, hm, _⟩, _⟩ := h
  subst e
  unfold Blk at hb
  rw [hb] at hm
  injection hm with hm
  cases hm
theorem DoneIs.look (h : DoneIs w dm n done) {s : ByteArray} (hs : s.size ≤ maxLen) :
    (Instr.lookup 121 (.map (some dm)) (.string s) false).run Tryd.prog w = .ok (.int .i64 (if inD done s then 1 else 0)) w := by
  obtain ⟨D, h1, h2⟩ := h
  obtain ⟨v, ps, hrun, hv⟩ := h1.lookup strK Tryd.underlying121 (zeroI w) (show rI (.int .i64 0) = some (.lit (.int .i64 0), []) from rfl) (key_str hs)
  obtain ⟨i, rfl, hi⟩ := rI_inv v _ hv
  rw [hrun]
  rw [h2 s hs] at hi
  have e := congrArg Prod.fst hi
  simp only [DataW.lit.injEq, Lit.int.injEq, true_and] at e
  rw [e]
theorem DoneIs.put (h : DoneIs w dm n done) {s : ByteArray} (hs : s.size ≤ maxLen) (hn : n < maxLen) :
    ∃ w', (Instr.mapUpdate 121 (.map (some dm)) (.string s) (.int .i64 1)).run Tryd.prog w = .ok () w' ∧ DoneIs w' dm (n + 1) (s :: done) ∧ w.grownBy w' (some dm) := by
  obtain ⟨D, h1, h2⟩ := h
  obtain ⟨w2, hrun, own2, turned⟩ := h1.store strK Tryd.underlying121 hn (key_str hs) (show rI (.int .i64 1) = some (.lit (.int .i64 1), []) from rfl)
  refine ⟨w2, hrun, ⟨_, own2, fun t ht => ?_⟩, turned.grown⟩
  by_cases e : t = s
  · subst e
    rw [Maps.atKey_put_same h1.isMap (strK.key (key_str hs))]
    simp [inD]
  · rw [Maps.atKey_put_other (fun e2 => by injection e2 with e2; exact e (bytes_ext e2)), h2 t ht]
    have e2 : decide (s = t) = false := decide_eq_false (fun h => e h.symm)
    have e3 : inD (s :: done) t = inD done t := by
      show (decide (s = t) || inD done t) = _
      rw [e2, Bool.false_or]
    rw [e3]
end
end
section
open Go.RowKit Go.Maps

theorem chase_line (L : List (Nat × En)) (now : Int) (nm : Nat → ByteArray) (n : Nat) (ads : List Int)
    (hl : ∀ i, i < n → ∃ p, lookL L now (nm i) = some p ∧ p.2.leads = true ∧ p.2.cname = nm (i + 1)) (he : ∃ p, lookL L now (nm n) = some p ∧ p.2.leads = false ∧ p.2.ad = ads) :
    ∀ d i, i + d = 8 → i ≤ n → chase L now (9 - (i : Int)).toNat (nm i) i = if n ≤ 8 then (some (0, ads), nm n, (n : Int)) else (some (10, []), nm 8, 9) := by
  intro d
  induction d with
  | zero =>
    intro i hi hin
    obtain rfl : i = 8 := by omega
    have hf : (9 - ((8 : Nat) : Int)).toNat = 0 + 1 := by decide
    rw [hf]
    by_cases h : n = 8
    · subst h
      obtain ⟨p, h1, h2, h3⟩ := he
      rw [chase_end h1 h2, h3]
      simp
    · obtain ⟨p, h1, h2, h3⟩ := hl 8 (by omega)
      rw [chase_over h1 h2 (by decide), if_neg (by omega)]
      rfl
  | succ d ih =>
    intro i hi hin
    have hf : (9 - (i : Int)).toNat = (9 - ((i + 1 : Nat) : Int)).toNat + 1 := by omega
    by_cases h : i = n
    · subst h
      obtain ⟨p, h1, h2, h3⟩ := he
      rw [hf, chase_end h1 h2, h3, if_pos (by omega)]
    · obtain ⟨p, h1, h2, h3⟩ := hl i (by omega)
      rw [hf, chase_on h1 h2 (by omega), h3]
      have := ih (i + 1) (by omega) (by omega)
      simpa using this
theorem chase_line0 (L : List (Nat × En)) (now : Int) (nm : Nat → ByteArray) (n : Nat) (ads : List Int)
    (hl : ∀ i, i < n → ∃ p, lookL L now (nm i) = some p ∧ p.2.leads = true ∧ p.2.cname = nm (i + 1)) (he : ∃ p, lookL L now (nm n) = some p ∧ p.2.leads = false ∧ p.2.ad = ads) :
    chase L now 9 (nm 0) 0 = if n ≤ 8 then (some (0, ads), nm n, (n : Int)) else (some (10, []), nm 8, 9) :=
  chase_line L now nm n ads hl he 8 0 rfl (Nat.zero_le _)
-- the entry of a name in a list of entries whose names differ
theorem look_of {L : List (Nat × En)} {now : Int} {s : ByteArray} {p : Nat × En} (ha : L.Pairwise fun p q => p.2.key ≠ q.2.key) (hp : p ∈ L) (hk : p.2.key = lowS s) (hb : now < p.2.behind) : lookL L now s = some p := by
  have h : (L.find? fun p => decide (p.2.key = lowS s)) = some p := by
    induction L with
    | nil => cases hp
    | cons a r ih =>
      rw [List.pairwise_cons] at ha
      rcases List.mem_cons.1 hp with rfl | hp
      · simp [List.find?, hk]
      · have hne : a.2.key ≠ lowS s := fun e => ha.1 p hp (e.trans hk.symm)
        simp only [List.find?, hne, decide_false]
        exact ih ha.2 hp
  unfold lookL
  rw [h]
  simp [hb]
theorem look_old {L : List (Nat × En)} {now : Int} {s : ByteArray} (h : ∀ p ∈ L, p.2.key = lowS s → ¬ now < p.2.behind) : lookL L now s = none := by
  unfold lookL
  cases hf : L.find? fun p => decide (p.2.key = lowS s) with
  | none => rfl
  | some p =>
    have := h p (List.mem_of_find?_eq_some hf) (by simpa using List.find?_some hf)
    simp [this]
end
end Go.Proofs.YtpfkmmmlocmakaaDoor
