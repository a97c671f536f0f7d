/-
  Resolve: keeps and Hear (merged); a message that grows.
-/
import Derived.Test.YtpfkmmmlocmakaaDoorRk1
import Derived.Test.YtpfkmmmlocmakaaDoorRvOf
import Derived.Test.YtpfkmmmlocmakaaDoorRvHr
import Derived.Test.YtpfkmmmlocmakaaDoorRvRf
set_option linter.unusedVariables false
namespace Go.Proofs.YtpfkmmmlocmakaaDoor
section
open Go.RowKit Go.Maps Go.Proofs.YtpfkmmmlocmakaaDoor.Chq

section
variable {P : Program} {ops : Array Oper} {m : Nat} {E : List Nat}
variable {W : World} {b : Nat} {D : Nat → Prop} {T : TypeId} {cs : Array Value} {k : Nat} {o : Oper} {a : Act} {rest : List Oper} {F : World → Prop} {Q : Exit → Act → World → Prop}
theorem che_callR (w1 : World) (v : Value) (f : FuncId) (args : Array Value) (R : World → Prop) (hw : Region.wanted o (yielded ops a.tmps) = true) (hp : Chq.pureOp o = false) (hrun : (execOp a.eval o).run P w1 = .ok (.enter f args) w1) (hc : Calls P f args w1 fun e w' => e = .returned v ∧ R w') (hC : Ce W b D w1 → ∀ w', R w' → Ce W b D w') (hz : k = m)
    (h : Cr P ops W b D T cs E m Q (k + 1) rest R (a.put o.dst v)) : Cr P ops W b D T cs E m Q k (o :: rest) (fun w' => w' = w1) a := by
  unfold Cr Chq.wpChn
  rw [if_pos hw, if_neg (by rw [hp]; decide)]
  refine ⟨fun v' w' => v' = v ∧ R w', fun w hD hf => ?_, fun v' hv => ?_⟩
  · subst hf
    have hc2 := hC hD.1
    obtain ⟨e0, w0, _, ⟨he0, hw0⟩, _⟩ := hc []
    refine ⟨⟨v, w0, hc2 _ hw0, fun h => absurd hz h, rfl, hw0⟩, .inr ⟨f, args, hrun, hc.mono fun e w' ⟨he, hw'⟩ => ?_⟩⟩
    exact ⟨v, he, hc2 _ hw', fun h => absurd hz h, rfl, hw'⟩
  · obtain ⟨w, _, _, hv1, _⟩ := hv
    subst hv1
    have e : R = (fun w' => v' = v' ∧ R w') := by funext w'; simp
    rw [e] at h
    exact h
end
theorem DoneIs.ne_own {w : World} {dm n : Nat} {done : List ByteArray} (h : DoneIs w dm n done) {B : Nat} {t : TypeId} {size k : Nat} {v : Value} {xs : List Value} (own : w.ownsRow B t size v k xs) : v.ownBlock ≠ some dm := by
  rcases own.2 with ⟨rfl, _⟩ | ⟨g, cap, cur, rfl, _, hh, _⟩
  · simp [Value.ownBlock]
  · intro he
    have h2 : g = dm := by simpa [Value.ownBlock] using he
    exact h.ne (show Blk w g t cur from hh) h2
structure Kl (w ws : World) (B N n0 n1 wb rb dm : Nat) (z : Rz) (now draw : Int) (fs : List Fd) (FA : Option Addr) (fc : Nat) (ds : List Dg) (DA : Option Addr) (dc : Nat) (T : List Pe) (AA : Option Addr) (ac : Nat) (L : List (Nat × En)) (D : DataW Unit) (kd : Nat) (done : List ByteArray) (R : List Pe) : Prop where
  rv : IsRv ws B rb { z with age := .slice AA L.length ac }
  W : IsWk ws N wb rb now draw fs FA fc ds DA dc
  K : IsKp ws B z.km AA ac L D
  d : DoneIs ws dm kd done
  t : (L.map fun p => p.2.pl) ++ R = T
  f : ∀ i, n0 ≤ i → i < n1 → ws.heap[i]? = w.heap[i]?
  o : ∀ b, (Value.slice AA L.length ac).ownBlock = some b → b < n0 ∨ n1 ≤ b
  k : KeepT w.heap.size [60, 64, 74] w ws
  b : Below B w ws
  m : MaxL ws
  dk : dm ≠ z.km
section
variable {w ws w1 : World} {B N n0 n1 wb rb dm : Nat} {z : Rz} {now draw : Int} {fs : List Fd} {FA : Option Addr} {fc : Nat} {ds : List Dg} {DA : Option Addr} {dc : Nat} {T : List Pe} {AA : Option Addr} {ac : Nat} {L : List (Nat × En)} {D : DataW Unit} {kd : Nat} {done : List ByteArray} {R : List Pe}
theorem Kl.nx (h : Kl w ws B N n0 n1 wb rb dm z now draw fs FA fc ds DA dc T AA ac L D kd done R) (hB : B ≤ w.heap.size) (hn : n1 ≤ w.heap.size) (k : Below ws.heap.size ws w1) : Kl w w1 B N n0 n1 wb rb dm z now draw fs FA fc ds DA dc T AA ac L D kd done R := by
  have hs := h.b.size
  exact ⟨h.rv.nx k, h.W.nx k, h.K.nx k, h.d.nx k, h.t, fun i h0 h1 => (k.block i (by omega)).trans (h.f i h0 h1), h.o, h.k.trans (KeepT.of_below k hs), h.b.trans (k.mono (by omega)), h.m.nx k, h.dk⟩
-- the map of what is done turns
theorem Kl.did (h : Kl w ws B N n0 n1 wb rb dm z now draw fs FA fc ds DA dc T AA ac L D kd done R) (hB : B ≤ w.heap.size) (hB0 : 0 < B) (hn : n1 ≤ w.heap.size) (hd : w.heap.size ≤ dm) {kd2 : Nat} {done2 : List ByteArray} (k : ws.grownBy w1 (some dm)) (d : DoneIs w1 dm kd2 done2) : Kl w w1 B N n0 n1 wb rb dm z now draw fs FA fc ds DA dc T AA ac L D kd2 done2 R := by
  have hs := h.b.size
  have hq : ∀ i, i < ws.heap.size → i ≠ dm → w1.heap[i]? = ws.heap[i]? := fun i hi hne => k.block i hi (by intro e; injection e with e; exact hne e)
  have kk : ∀ n, n ≤ ws.heap.size → KeepT n [60] ws w1 := fun n hn i o hi ho hno => by
    by_cases e : i = dm
    · subst e
      obtain ⟨_, ⟨es, c, hm, _⟩, _⟩ := h.d
      rw [hm] at ho; injection ho with ho; subst ho
      exact absurd (List.mem_singleton.2 rfl) hno
    · rw [hq i (by omega) e]; exact ho
  have k0 := kk ws.heap.size (Nat.le_refl _)
  have hK : IsKp w1 B z.km AA ac L D := by
    have hlt := World.ownsMap.lt h.K.own
    refine ⟨?_, h.K.size, h.K.has, h.K.at_, h.K.apart, h.K.ksz, k0.own h.K.age (by decide), fun p hp => ⟨k0.blk_ (h.K.e p hp).1 (by decide), (h.K.e p hp).2⟩, fun p hp => k0.own (h.K.ad p hp) (by decide), h.K.mlo⟩
    obtain ⟨es, c, hb, r⟩ := h.K.own
    exact ⟨es, c, (hq _ hlt (fun e => h.dk e.symm)).trans hb, r⟩
  exact ⟨h.rv.keep k0 (by decide) (by decide) (by decide) (by decide), h.W.keep k0 (by decide) (by decide) (by decide) (by decide) (by decide), hK, d, h.t, fun i h0 h1 => (hq i (by omega) (by omega)).trans (h.f i h0 h1), h.o,
    h.k.trans ((kk w.heap.size hs).mono (by decide)), h.b.trans ⟨k.os, k.tape, k.output, k.size, fun i hi => hq i (by omega) (by omega)⟩, h.m.below ⟨k.os, k.tape, k.output, k.size, fun i hi => hq i (by omega) (by omega)⟩ (B := w.heap.size) (by omega), h.dk⟩
-- an entry is laid
theorem Kl.lay (h : Kl w ws B N n0 n1 wb rb dm z now draw fs FA fc ds DA dc T AA ac L D kd done R) (hB : B ≤ w.heap.size) (hB0 : 0 < B) (hn : n1 ≤ w.heap.size) (hrb : rb < n0) (hkm : z.km < n0) {g : Nat} {x : En} {e : Ending} {R2 : List Pe} (hR : R = x.pl :: R2)
    (hl : LayP ws B rb z.km g { z with age := .slice AA L.length ac } L x e w1) : e = .returned (.tuple #[]) ∧ ∃ AA' ac' D', Kl w w1 B N n0 n1 wb rb dm z now draw fs FA fc ds DA dc T AA' ac' (L ++ [(g, x)]) D' kd done R2 := by
  obtain ⟨he, AA', ac', D', r, kp, kt, bl, lf⟩ := hl
  refine ⟨he, AA', ac', D', ?_⟩
  have hs := h.b.size
  have hle : (L ++ [(g, x)]).length = L.length + 1 := by simp
  refine ⟨by rw [hle]; exact r, h.W.keep kt (by decide) (by decide) (by decide) (by decide) (by decide), kp, ?_, ?_, ?_, ?_, h.k.trans (kt.less hs), h.b.trans bl, h.m.below bl hB0, h.dk⟩
  · exact h.d.at_ (lf.1 dm h.d.lt (fun e => h.d.ne h.rv.b e.symm) h.dk (h.d.ne_own h.K.age))
  · have := h.t
    rw [hR] at this
    exact next_of this rfl
  · intro i h0 h1
    refine (lf.1 i (by omega) (by omega) (fun e => ?_) (fun e => ?_)).trans (h.f i h0 h1)
    · have e2 : i = z.km := e
      omega
    · rcases h.o i e with h2 | h2 <;> omega
  · intro b hb
    rw [hle] at hb
    rcases lf.2 with h2 | ⟨b2, h3, h2⟩
    · exact h.o b (h2.symm.trans hb)
    · rw [h2] at hb
      injection hb with hb
      exact .inr (by omega)
end
end
section
open Go.RowKit Go.Maps Go.Proofs.YtpfkmmmlocmakaaDoor.Chq

def KeepsP (w : World) (B N wb rb : Nat) (z : Rz) (now draw : Int) (fs : List Fd) (FA : Option Addr) (fc : Nat) (ds : List Dg) (DA : Option Addr) (dc : Nat) (T : List Pe) (e : Ending) (w' : World) : Prop :=
  e = .returned (.tuple #[]) ∧ ∃ (AA' : Option Addr) (ac' : Nat) (L' : List (Nat × En)) (D' : DataW Unit), IsRv w' B rb { z with age := .slice AA' L'.length ac' } ∧ IsWk w' N wb rb now draw fs FA fc ds DA dc ∧ IsKp w' B z.km AA' ac' L' D' ∧ (L'.map fun p => p.2.pl) = T ∧
    KeepT w.heap.size [60, 64, 74] w w' ∧ Below B w w'
-- the entry that the inner loop fills
structure Jl (w4 ws : World) (key : ByteArray) (ads : List Int) (A : Option Addr) (c : Nat) : Prop where
  bel : Below w4.heap.size w4 ws
  e : Blk ws w4.heap.size 76 #[.string key, .string ⟨#[]⟩, .bool false, .slice A ads.length c, .int .i64 0]
  o : ws.ownsRow w4.heap.size 33 1 (.slice A ads.length c) ads.length (ads.map (Value.int .u32))
theorem Jl.nx {w4 ws w1 : World} {key : ByteArray} {ads : List Int} {A : Option Addr} {c : Nat} (h : Jl w4 ws key ads A c) (k : Below ws.heap.size ws w1) : Jl w4 w1 key ads A c := ⟨h.bel.trans (k.mono h.bel.size), h.e.nx k, own_nx h.o k⟩
theorem below_drew {w w' : World} {n : Nat} (h : w' = w.drewN n) : Below w.heap.size w w' := by rw [h]; exact dn (rf w) n
theorem of_no {nm : ByteArray} {y : Rc} (h : (y.c == 1) = false ∨ ((y.c == 1) = true ∧ (y.t == 1) = false) ∨ ((y.c == 1) = true ∧ (y.t == 1) = true ∧ (low y.nm == low nm) = false)) : ofA nm y = false := by
  unfold ofA
  rcases h with h | ⟨_, h⟩ | ⟨_, _, h⟩
  · have : ¬ y.c = 1 := by simpa using h
    simp [this]
  · have : ¬ y.t = 1 := by simpa using h
    simp [this]
  · simp [h]
theorem of_yes {nm : ByteArray} {y : Rc} (h1 : (y.c == 1) = true) (h2 : (y.t == 1) = true) (h3 : (low y.nm == low nm) = true) : ofA nm y = true := by
  unfold ofA
  have a1 : y.c = 1 := by simpa using h1
  have a2 : y.t = 1 := by simpa using h2
  simp [a1, a2, h3]
set_option maxRecDepth 100000 in
set_option maxHeartbeats 6400000 in
theorem keepsC (w : World) (B N n0 n1 wb rb : Nat) (z : Rz) (now draw : Int) (fs : List Fd) (FA : Option Addr) (fc : Nat) (ds : List Dg) (DA : Option Addr) (dc : Nat) (M : Ms) (AA : Option Addr) (ac : Nat) (L : List (Nat × En)) (D : DataW Unit) (T : List Pe)
    (hR : IsRv w B rb z) (hage : z.age = .slice AA L.length ac) (hW : IsWk w N wb rb now draw fs FA fc ds DA dc) (hK : IsKp w B z.km AA ac L D) (hm : MaxL w)
    (hM : ∀ w'', n1 ≤ w''.heap.size → (∀ i, n0 ≤ i → i < n1 → w''.heap[i]? = w.heap[i]?) → IsM w'' M) (hn : n1 ≤ w.heap.size) (hrb : rb < n0) (hkm : z.km < n0) (ho : ∀ b, (Value.slice AA L.length ac).ownBlock = some b → b < n0 ∨ n1 ≤ b)
    (hT : (L.map fun p => p.2.pl) ++ keepL now [] M.a = T) (hTp : T.Pairwise fun a b => a.key ≠ b.key) (hTl : T.length ≤ 64) (hmc : M.a.length ≤ M.m) (hu : ∀ r ∈ M.a, 0 ≤ r.u ∧ r.u ≤ 2147483647) (t0 : 0 ≤ now) (t1 : now ≤ 1152921504606846976) (hB : B ≤ w.heap.size) (hB0 : 0 < B) :
    Calls Tryd.prog 43 #[.pointer (some ⟨wb, 0, none⟩), .slice M.A M.a.length M.m] w (KeepsP w B N wb rb z now draw fs FA fc ds DA dc T) := by
  have hmk : ∀ w, (Instr.makeMap 121 none).run Tryd.prog w = .ok (.map (some w.heap.size)) (w.alloc (.map #[] 0)) := fun w => by simp [Instr.makeMap]
  have ez : ({ z with age := .slice AA L.length ac } : Rz) = z := by cases z; simp only at hage; rw [hage]
  have b1 : Below w.heap.size w (w.alloc (.map #[] 0)) := al (rf w) _
  have hkl := World.ownsMap.lt hK.own
  have K0 : Hid (Kl w (w.alloc (.map #[] 0)) B N n0 n1 wb rb w.heap.size z now draw fs FA fc ds DA dc T AA ac L D 0 [] (keepL now [] (M.a.drop 0))) := by
    refine ⟨by rw [ez]; exact hR.nx b1, hW.nx b1, hK.nx b1, DoneIs.new w, by rw [List.drop_zero]; exact hT, fun i h0 h1 => b1.block i (by omega), ho, KeepT.of_below b1 (Nat.le_refl _), b1.mono hB, hm.nx b1, by omega⟩
  have HM := Lib.hid hM
  have hal : M.a.length ≤ 3000 := (hM w hn (fun _ _ _ => rfl)).al
  have HU := Lib.hid hu
  have HTP := Lib.hid hTp
  clear hR hage hW hK hm hM ho hT hTp hu ez b1 hkl
  obtain ⟨MA, hMA⟩ : ∃ MA, M.A = MA := ⟨_, rfl⟩
  have HMA := Lib.hid hMA
  rw [hMA]
  clear hMA
  obtain ⟨dm, hdm⟩ : ∃ dm, w.heap.size = dm := ⟨_, rfl⟩
  have hdm2 : w.heap.size ≤ dm := by omega
  have HDM := Lib.hid hdm
  have K1 : Hid (Kl w (w.alloc (.map #[] 0)) B N n0 n1 wb rb dm z now draw fs FA fc ds DA dc T AA ac L D 0 [] (keepL now [] (M.a.drop 0))) := by
    show Kl _ _ _ _ _ _ _ _ dm _ _ _ _ _ _ _ _ _ _ _ _ _ _ _ _ _
    rw [← hdm]; exact K0.out
  go_enter Tryd.func43, Tryd.ntmps43
  go_wp2
  clear hdm hmk K0
  generalize w.alloc (.map #[] 0) = wa at K1 ⊢
  go_loopw [15] (fun kv ws => ∃ (k : Nat) (AA1 : Option Addr) (ac1 : Nat) (L1 : List (Nat × En)) (D1 : DataW Unit) (done : List ByteArray), kv = .int .i64 k ∧ k ≤ M.a.length ∧ Hid (Kl w ws B N n0 n1 wb rb dm z now draw fs FA fc ds DA dc T AA1 ac1 L1 D1 k done (keepL now done (M.a.drop k)))) (fun kv _ => M.a.length - (intOf kv).toNat)
  case atStart => exact ⟨0, AA, ac, L, D, [], rfl, Nat.zero_le _, K1.out⟩
  case round =>
    clear K1
    obtain ⟨k, AA1, ac1, L1, D1, done, rfl, hk, HK⟩ := hrel
    by_cases hlt : k < M.a.length
    · obtain ⟨x, hx⟩ : ∃ x, M.a[k]? = some x := ⟨_, List.getElem?_eq_getElem hlt⟩
      have hbs := HK.out.b.size
      have IM := HM.out wr (by omega) HK.out.f
      obtain ⟨ad, hAd, hadb, hcell⟩ := rows_rc IM.a hx
      rw [HMA.out] at hAd
      subst hAd
      have HCELL : Hid (∀ j u, ([.string x.nm, .int .i64 x.t, .int .i64 x.c, .int .i64 x.u, .slice x.A x.da.length x.k] : List Value)[j]? = some u → wr.cell? ((ad.add (k * 5)).add j) = some u) := hcell
      have HX := Lib.hid hx
      obtain ⟨hby, hdk, hd3, hn3⟩ := IM.ar x (List.mem_of_getElem? hx)
      have HUX := Lib.hid (HU.out x (List.mem_of_getElem? hx))
      have k1 : (k : Int) < M.a.length := by omega
      have k0 : (0 : Int) ≤ k := by omega
      have HB0 : Hid (Below wr.heap.size wr (wr.alloc (.cells #[.string x.nm, .int .i64 x.t, .int .i64 x.c, .int .i64 x.u, .slice x.A x.da.length x.k] 48))) := al (rf wr) _
      have XB0 := Lib.hid (Blk.new wr 48 #[.string x.nm, .int .i64 x.t, .int .i64 x.c, .int .i64 x.u, .slice x.A x.da.length x.k])
      clear hcell hx hadb hby IM
      go_wp2_with (with_reducible refine wpList_load_any rfl 48 (.tmp 18) rfl (ad.add (k * 5)) (by kernel_rfl) [.string x.nm, .int .i64 x.t, .int .i64 x.c, .int .i64 x.u, .slice x.A x.da.length x.k] _ HCELL.out Tryd.underlying48 (by kernel_rfl) (by kernel_rfl) ?_)
      refine (keyS x.nm _ (by omega)).mono ?_
      rintro e w3 ⟨rfl, b3⟩
      have B3 := Lib.hid (nx HB0.out b3)
      have XB3 := Lib.hid (XB0.out.nx b3)
      have K3 := Lib.hid (HK.out.nx hB hn B3.out)
      obtain ⟨tb, htb⟩ : ∃ tb, wr.heap.size = tb := ⟨_, rfl⟩
      rw [htb] at XB3 ⊢
      have hz3 := B3.out.size
      have c0 := XB3.out.cell 0
      have c1 := XB3.out.cell 1
      have c2 := XB3.out.cell 2
      have c3 := XB3.out.cell 3
      simp only [List.getElem?_toArray, List.getElem?_cons_zero, List.getElem?_cons_succ] at c0 c1 c2 c3
      clear b3 HB0 XB0 HCELL htb HK
      by_cases hc : x.c = 1
      rotate_left
      · have e1 : (x.c != 1) = true := by simpa using hc
        have E2 := Lib.hid (keep_class (now := now) (done := done) HX.out hc)
        clear hc
        go_wp2
        go_roundw
        case rel => exact ⟨k + 1, AA1, ac1, L1, D1, done, by go_num, by omega, by rw [← E2.out]; exact ⟨K3.out.rv, K3.out.W, K3.out.K, K3.out.d.mono (Nat.le_succ _), K3.out.t, K3.out.f, K3.out.o, K3.out.k, K3.out.b, K3.out.m, K3.out.dk⟩⟩
        case measure => simp [intOf]; omega
      have e1 : (x.c != 1) = false := by simpa using hc
      have HC := Lib.hid hc
      clear hc
      by_cases ht : x.t = 5
      · have e2 : (x.t == 5) = true := by simpa using ht
        have E2 := Lib.hid (keep_lead (now := now) (done := done) HX.out HC.out ht)
        clear ht
        have K3t := K3.out.t
        rw [E2.out] at K3t
        have hnew := new_of K3t HTP.out hTl
        obtain ⟨bh, hbh⟩ : ∃ bh, untilV now x.u = bh := ⟨_, rfl⟩
        obtain ⟨xe, hxe⟩ : ∃ xe : En, xe = ⟨lowS x.nm, ⟨x.da.toArray⟩, true, [], none, 0, bh⟩ := ⟨_, rfl⟩
        obtain ⟨w4, hw4⟩ : ∃ w4, w4 = w3.drew.alloc (.cells #[.string (lowS x.nm), .string ⟨x.da.toArray⟩, .bool true, .slice none 0 0, .int .i64 bh] 76) := ⟨_, rfl⟩
        have b34 : Below w3.heap.size w3 w4 := by rw [hw4]; exact al (rf w3).drew _
        have K4 := Lib.hid (K3.out.nx hB hn b34)
        have hxk : xe.key = lowS x.nm := by rw [hxe]
        have XE4 : Blk w4 w3.heap.size 76 xe.cs := by rw [hw4, hxe]; exact Blk.new w3.drew _ _
        have HLAY := Lib.hid (layC w4 B rb z.km w3.heap.size { z with age := .slice AA1 L1.length ac1 } AA1 ac1 L1 D1 xe K4.out.rv rfl rfl K4.out.K XE4 (by omega) (by rw [hxe]; exact World.ownsRow_nil _ _ _ _) (by rw [hxk]; exact hnew.1) (by rw [hxk, lowS_size]; omega) hnew.2 (by have := b34.size; omega))
        have HUN : Hid (Calls Tryd.prog 62 #[.pointer (some ⟨wb, 0, none⟩), .int .i64 x.u] w3.drew fun e w' => e = .returned (.int .i64 bh) ∧ w' = w3.drew) := by
          rw [← hbh]
          exact untilC w3.drew wb now x.u _ K3.out.W.b.drew rfl t0 t1 HUX.out.1 HUX.out.2
        obtain ⟨zcs, hzcs⟩ : ∃ zcs, zcs = ({ z with age := .slice AA1 L1.length ac1 } : Rz).cs := ⟨_, rfl⟩
        obtain ⟨Dp, hDp⟩ : ∃ Dp : Nat → Prop, Dp = fun i => i = z.km ∨ (Value.slice AA1 L1.length ac1).ownBlock = some i := ⟨_, rfl⟩
        have notD : ∀ {t : TypeId} {i : Nat} {cs : Array Value}, Blk w3 i t cs → 74 ≠ t → ¬ Dp i := fun {t i cs} hb hne h => by
          rw [hDp] at h
          rcases h with h | h
          · obtain ⟨es, c, hm, _⟩ := K3.out.K.own
            subst h
            unfold Blk at hb
            rw [hb] at hm
            injection hm with hm
            cases hm
          · exact own_blk_ne K3.out.K.age hb hne h
        have nwr : wb ≠ rb := K3.out.W.b.ne_ K3.out.rv.b (by decide)
        have ntr : tb ≠ rb := XB3.out.ne_ K3.out.rv.b (by decide)
        have e0 : ∀ y : Ge w3 rb Dp 64 zcs, y.w.cell? ⟨wb, 0, none⟩ = some (.pointer (some ⟨rb, 0, none⟩)) := fun y => (y.blk K3.out.W.b nwr (notD K3.out.W.b (by decide))).cell 0
        have e3 : ∀ y : Ge w3 rb Dp 64 zcs, y.w.cell? ⟨tb, 3, none⟩ = some (.int .i64 x.u) := fun y => (y.blk XB3.out ntr (notD XB3.out (by decide))).cell 3
        have e4 : ∀ y : Ge w3 rb Dp 64 zcs, y.w.cell? ⟨tb, 4, none⟩ = some (.slice x.A x.da.length x.k) := fun y => (y.blk XB3.out ntr (notD XB3.out (by decide))).cell 4
        have ecv : ∀ y : Ge w3 rb Dp 64 zcs, (convert 34 9 (.slice x.A x.da.length x.k)).run Tryd.prog y.w = .ok (.string ⟨x.da.toArray⟩) y.w := fun y => by
          refine convStr y.w x.A x.da x.da.length x.k ?_ rfl
          have hs3 := K3.out.b.size
          have IM := HM.out y.w (by have := y.h.size; omega) (fun i h0 h1 => (y.h.block i (by omega) (by omega) (fun h => by
            rw [hDp] at h
            rcases h with h | h
            · omega
            · rcases K3.out.o i h with h2 | h2 <;> omega)).trans (K3.out.f i h0 h1))
          exact (IM.ar x (List.mem_of_getElem? HX.out)).1
        have RBc : Hid (Blk w3 rb 64 zcs) := by show Blk _ _ _ _; rw [hzcs]; exact K3.out.rv.b
        have hne1 : Nonempty (Ge w3 rb Dp 64 zcs) := ⟨⟨w3, Ce.refl _ _ _, RBc.out⟩⟩
        have HW4 := Lib.hid hw4
        have B34 := Lib.hid b34
        have HDP := Lib.hid hDp
        have HXE := Lib.hid hxe
        have HBH := Lib.hid hbh
        clear hw4 b34 hDp hxe hbh notD nwr ntr hzcs hnew K3t hxk XE4
        go_wp2
        refine wp_region_che rb Dp 64 zcs 14 (by kernel_rfl) (by kernel_rfl) (by kernel_rfl) (by kernel_rfl) RBc.out ?_
        iterate 11 (refine che_early (by kernel_rfl) (by kernel_rfl) (by kernel_rfl) ?_; intro K hK; go_big_quiet_op; go_big_quiet_on)
        refine che_call w3.drew w3.drew (.int .i64 bh) 62 #[.pointer (some ⟨wb, 0, none⟩), .int .i64 x.u] (by kernel_rfl) (by kernel_rfl) (by kernel_rfl) HUN.out (fun h => h) (fun _ h => h) ?_
        go_frame
        iterate 1 (refine che_early (by kernel_rfl) (by kernel_rfl) (by kernel_rfl) ?_; intro K hK; go_big_quiet_op; go_big_quiet_on)
        refine che_lit w3.drew (.cells #[.string (lowS x.nm), .string ⟨x.da.toArray⟩, .bool true, .slice none 0 0, .int .i64 bh] 76) (.pointer (some ⟨w3.heap.size, 0, none⟩)) (by kernel_rfl) (by kernel_rfl) (by first | rfl | (unfold execOp; simp [go_sem])) ?_
        go_frame
        rw [← HW4.out]
        refine che_callR w4 (.tuple #[]) 61 #[.pointer (some ⟨rb, 0, none⟩), .pointer (some ⟨w3.heap.size, 0, none⟩)] (fun w' => LayP w4 B rb z.km w3.heap.size { z with age := .slice AA1 L1.length ac1 } L1 xe (.returned (.tuple #[])) w') (by kernel_rfl) (by kernel_rfl) (by kernel_rfl) (HLAY.out.mono fun e w' h => ⟨h.1, rfl, h.2⟩) (fun hC w' h => ?_) rfl ?_
        · obtain ⟨_, AA2, ac2, D2, _, _, _, bl, lf⟩ := h
          have hs4 := B34.out.size
          refine ⟨bl.os.trans hC.os, bl.tape.trans hC.tape, bl.output.trans hC.output, Nat.le_trans hC.size bl.size, fun i hi h1 h2 => ?_⟩
          rw [HDP.out] at h2
          exact (lf.1 i (by omega) h1 (fun e => h2 (.inl e)) (fun e => h2 (.inr e))).trans (B34.out.block i hi)
        go_frame
        refine che_nil ?_
        intro w5 _ h5
        obtain ⟨_, AA2, ac2, D2, K5⟩ := K4.out.lay hB hB0 hn hrb hkm (x := xe) (g := w3.heap.size) (R2 := keepL now done (M.a.drop (k + 1))) (by rw [E2.out, HXE.out, HBH.out]; rfl) h5
        have HK5 := Lib.hid K5
        clear e0 e3 e4 ecv hne1 h5 K5 HLAY HUN RBc
        go_wp2
        go_roundw
        case rel => exact ⟨k + 1, AA2, ac2, _, D2, done, by go_num, by omega, ⟨HK5.out.rv, HK5.out.W, HK5.out.K, HK5.out.d.mono (Nat.le_succ _), HK5.out.t, HK5.out.f, HK5.out.o, HK5.out.k, HK5.out.b, HK5.out.m, HK5.out.dk⟩⟩
        case measure => simp [intOf]; omega
      have e2 : (x.t == 5) = false := by simpa using ht
      have HT5 := Lib.hid ht
      clear ht
      by_cases hd : x.t = 1 ∧ inD done (lowS x.nm) = false
      rotate_left
      · have E2 := Lib.hid (keep_skip (now := now) HX.out HT5.out hd)
        have DN : Hid (∀ K : Prop, K → K) := fun _ h => h
        by_cases ht1 : x.t = 1
        · have hin : inD done (lowS x.nm) = true := by
            cases h : inD done (lowS x.nm) with
            | true => rfl
            | false => exact absurd ⟨ht1, h⟩ hd
          have e3 : (x.t == 1) = true := by simpa using ht1
          have LK := K3.out.d.look (s := lowS x.nm) (by rw [lowS_size]; unfold maxLen; omega)
          rw [if_pos hin] at LK
          clear hd ht1 hin
          go_wp2
          go_roundw
          case rel => exact ⟨k + 1, AA1, ac1, L1, D1, done, by go_num, by omega, by rw [← E2.out]; exact ⟨K3.out.rv, K3.out.W, K3.out.K, K3.out.d.mono (Nat.le_succ _), K3.out.t, K3.out.f, K3.out.o, K3.out.k, K3.out.b, K3.out.m, K3.out.dk⟩⟩
          case measure => simp [intOf]; omega
        · have e3 : (x.t == 1) = false := by simpa using ht1
          clear hd ht1
          go_wp2
          go_roundw
          case rel => exact ⟨k + 1, AA1, ac1, L1, D1, done, by go_num, by omega, by rw [← E2.out]; exact ⟨K3.out.rv, K3.out.W, K3.out.K, K3.out.d.mono (Nat.le_succ _), K3.out.t, K3.out.f, K3.out.o, K3.out.k, K3.out.b, K3.out.m, K3.out.dk⟩⟩
          case measure => simp [intOf]; omega
      obtain ⟨ht1, hnd⟩ := hd
      have e3 : (x.t == 1) = true := by simpa using ht1
      have E2 := Lib.hid (keep_ads (now := now) HX.out HC.out ht1 hnd)
      have hsz : (lowS x.nm).size ≤ maxLen := by rw [lowS_size]; unfold maxLen; omega
      have LK := K3.out.d.look (s := lowS x.nm) hsz
      rw [if_neg (by rw [hnd]; decide)] at LK
      obtain ⟨w4, hrun, hdone, hgr⟩ := K3.out.d.put (s := lowS x.nm) hsz (by unfold maxLen; omega)
      have K4 := Lib.hid (K3.out.did hB hB0 hn hdm2 hgr hdone)
      have XB4 := Lib.hid (XB3.out.grown hgr (fun e => by injection e with e; exact K3.out.d.ne XB3.out e))
      have hz4 : w3.heap.size ≤ w4.heap.size := hgr.size
      have c53 := (XB4.out.alloc (.cells #[.string (lowS x.nm), .string ⟨#[]⟩, .bool false, .slice none 0 0, .int .i64 0] 76)).cell 3
      simp only [List.getElem?_toArray, List.getElem?_cons_zero, List.getElem?_cons_succ] at c53
      have EB5 := Lib.hid (Blk.new w4 76 #[.string (lowS x.nm), .string ⟨#[]⟩, .bool false, .slice none 0 0, .int .i64 0])
      have HZ5 := Lib.hid (show (w4.alloc (.cells #[.string (lowS x.nm), .string ⟨#[]⟩, .bool false, .slice none 0 0, .int .i64 0] 76)).heap.size = w4.heap.size + 1 by simp)
      have B45 := Lib.hid (al (rf w4) (.cells #[.string (lowS x.nm), .string ⟨#[]⟩, .bool false, .slice none 0 0, .int .i64 0] 76))
      have hmk : (M.m : Int) ≠ k := by omega
      have hmk2 : M.m ≠ k := by omega
      clear ht1 hnd hdone hgr hsz
      go_wp2
      clear c0 c1 c2 c3 c53 LK hrun e1 e2 e3
      obtain ⟨wo, hwo⟩ : ∃ wo, wo = wr := ⟨_, rfl⟩
      subst hwo
      go_loopw [69, 9] (fun jv lv ws => ∃ (j : Nat) (A : Option Addr) (c : Nat) (le : Int), jv = .int .i64 j ∧ j ≤ M.a.length - k ∧ lv = .int .i64 le ∧ Hid (leastOf x.nm x.u ((M.a.drop k).take j) = le) ∧ Hid (Jl w4 ws (lowS x.nm) (adsOf x.nm ((M.a.drop k).take j)) A c)) (fun jv _ _ => M.a.length - k - (intOf jv).toNat)
      case atStart => exact ⟨0, none, 0, x.u, rfl, Nat.zero_le _, rfl, rfl, ⟨B45.out, EB5.out, World.ownsRow_nil _ _ _ _⟩⟩
      case round =>
        clear EB5 B45 HZ5
        obtain ⟨j, A, c, le, rfl, hj, rfl, HLE, HJ⟩ := hrel
        by_cases hjl : j < M.a.length - k
        · obtain ⟨y, hy⟩ : ∃ y, M.a[k + j]? = some y := ⟨_, List.getElem?_eq_getElem (by omega)⟩
          have hyd : (M.a.drop k)[j]? = some y := by rw [List.getElem?_drop]; exact hy
          have KK := Lib.hid (K4.out.nx hB hn HJ.out.bel)
          have hbk := KK.out.b.size
          have IM := HM.out wr (by omega) KK.out.f
          obtain ⟨ad2, hAd2, _, hcell2⟩ := rows_rc IM.a hy
          rw [HMA.out] at hAd2
          injection hAd2 with hAd2
          rw [← hAd2] at hcell2
          have HCELL : Hid (∀ i u, ([.string y.nm, .int .i64 y.t, .int .i64 y.c, .int .i64 y.u, .slice y.A y.da.length y.k] : List Value)[i]? = some u → wr.cell? (((ad.add (k * 5)).add (j * 5)).add i) = some u) := fun i u h => by
            have h2 := hcell2 i u h
            rw [Addr.add_add ad (k * 5) (j * 5), show k * 5 + j * 5 = (k + j) * 5 by omega]
            exact h2
          have HY := Lib.hid hy
          have HYD := Lib.hid hyd
          obtain ⟨hyb, hydk, hyd3, hyn3⟩ := IM.ar y (List.mem_of_getElem? hy)
          have j1 : (j : Int) < (M.a.length : Int) - k := by omega
          have j0 : (0 : Int) ≤ j := by omega
          have J7 := Lib.hid (HJ.out.nx (al (rf wr) (.cells #[.string y.nm, .int .i64 y.t, .int .i64 y.c, .int .i64 y.u, .slice y.A y.da.length y.k] 48)))
          have Y7 := Lib.hid (Blk.new wr 48 #[.string y.nm, .int .i64 y.t, .int .i64 y.c, .int .i64 y.u, .slice y.A y.da.length y.k])
          have X7 := Lib.hid ((XB4.out.nx HJ.out.bel).alloc (.cells #[.string y.nm, .int .i64 y.t, .int .i64 y.c, .int .i64 y.u, .slice y.A y.da.length y.k] 48))
          have d0 := Y7.out.cell 0
          have d1 := Y7.out.cell 1
          have d2 := Y7.out.cell 2
          have x0 := X7.out.cell 0
          simp only [List.getElem?_toArray, List.getElem?_cons_zero, List.getElem?_cons_succ] at d0 d1 d2 x0
          clear hcell2 hAd2 hy hyd hyb IM KK
          have tri : ((y.c == 1) = false ∨ ((y.c == 1) = true ∧ (y.t == 1) = false) ∨ ((y.c == 1) = true ∧ (y.t == 1) = true ∧ (low y.nm == low x.nm) = false)) ∨ ((y.c == 1) = true ∧ (y.t == 1) = true ∧ (low y.nm == low x.nm) = true) := by
            cases (y.c == 1) <;> cases (y.t == 1) <;> cases (low y.nm == low x.nm) <;> simp
          have SM : Hid (∀ (w : World) (b : Bool), (low y.nm == low x.nm) = b → Calls Tryd.prog 14 #[.string y.nm, .string x.nm] w fun e w' => e = .returned (.bool b) ∧ ∃ n, w' = w.drewN n) := fun w b hb => by
            have h := sameC y.nm x.nm w (by omega) (by omega)
            rw [hb] at h
            exact h
          rcases tri with tri | ⟨f1, f2, f3⟩
          · have hno := of_no tri
            have EA := Lib.hid (ads_no HYD.out hno)
            have EL := Lib.hid (least_no (u := x.u) HYD.out hno)
            rcases tri with f1 | ⟨f1, f2⟩ | ⟨f1, f2, f3⟩
            · clear hno
              go_wp2_with (with_reducible refine wpList_load_any rfl 48 (.tmp 71) rfl ((ad.add (k * 5)).add (j * 5)) (by kernel_rfl) [.string y.nm, .int .i64 y.t, .int .i64 y.c, .int .i64 y.u, .slice y.A y.da.length y.k] _ HCELL.out Tryd.underlying48 (by kernel_rfl) (by kernel_rfl) ?_)
              go_roundw
              case rel => exact ⟨j + 1, A, c, le, by go_num, by omega, rfl, by show _ = _; rw [EL.out]; exact HLE.out, by show Jl _ _ _ _ _ _; rw [EA.out]; exact J7.out⟩
              case measure => simp [intOf]; omega
            · clear hno
              go_wp2_with (with_reducible refine wpList_load_any rfl 48 (.tmp 71) rfl ((ad.add (k * 5)).add (j * 5)) (by kernel_rfl) [.string y.nm, .int .i64 y.t, .int .i64 y.c, .int .i64 y.u, .slice y.A y.da.length y.k] _ HCELL.out Tryd.underlying48 (by kernel_rfl) (by kernel_rfl) ?_)
              go_roundw
              case rel => exact ⟨j + 1, A, c, le, by go_num, by omega, rfl, by show _ = _; rw [EL.out]; exact HLE.out, by show Jl _ _ _ _ _ _; rw [EA.out]; exact J7.out⟩
              case measure => simp [intOf]; omega
            · clear hno
              go_wp2_with (with_reducible refine wpList_load_any rfl 48 (.tmp 71) rfl ((ad.add (k * 5)).add (j * 5)) (by kernel_rfl) [.string y.nm, .int .i64 y.t, .int .i64 y.c, .int .i64 y.u, .slice y.A y.da.length y.k] _ HCELL.out Tryd.underlying48 (by kernel_rfl) (by kernel_rfl) ?_)
              refine (SM.out _ _ f3).mono ?_
              rintro e w9 ⟨rfl, n9, hw9⟩
              have J9 := Lib.hid (J7.out.nx (below_drew hw9))
              clear hw9
              go_wp2
              go_roundw
              case rel => exact ⟨j + 1, A, c, le, by go_num, by omega, rfl, by show _ = _; rw [EL.out]; exact HLE.out, by show Jl _ _ _ _ _ _; rw [EA.out]; exact J9.out⟩
              case measure => simp [intOf]; omega
          · have hyes := of_yes f1 f2 f3
            have EA := Lib.hid (ads_yes HYD.out hyes)
            have EL := Lib.hid (least_yes (u := x.u) HYD.out hyes)
            have hla : (adsOf x.nm ((M.a.drop k).take j)).length ≤ 3000 := Nat.le_trans (ads_len _ _) (by rw [List.length_take, List.length_drop]; omega)
            obtain ⟨ads, hads⟩ : ∃ ads, adsOf x.nm ((M.a.drop k).take j) = ads := ⟨_, rfl⟩
            rw [hads] at EA HJ J7 hla
            rw [HLE.out] at EL
            clear hyes hads
            go_wp2_with (with_reducible refine wpList_load_any rfl 48 (.tmp 71) rfl ((ad.add (k * 5)).add (j * 5)) (by kernel_rfl) [.string y.nm, .int .i64 y.t, .int .i64 y.c, .int .i64 y.u, .slice y.A y.da.length y.k] _ HCELL.out Tryd.underlying48 (by kernel_rfl) (by kernel_rfl) ?_)
            refine (SM.out _ _ f3).mono ?_
            rintro e w8 ⟨rfl, n9, hw9⟩
            have b78 := below_drew hw9
            have J8 := Lib.hid (J7.out.nx b78)
            have Y8 := Lib.hid (Y7.out.nx b78)
            obtain ⟨yb, hyb⟩ : ∃ yb, wr.heap.size = yb := ⟨_, rfl⟩
            rw [hyb] at Y8 ⊢
            have KK := Lib.hid (K4.out.nx hB hn J8.out.bel)
            have hbk := KK.out.b.size
            have hb8 := ((HM.out w8 (by omega) KK.out.f).ar y (List.mem_of_getElem? HY.out)).1
            have HADR := Lib.hid (addrC w8.drew y.A y.da y.k (hb8.drew) (by omega))
            obtain ⟨av, hav⟩ : ∃ av : Int, ((addrN y.da : Nat) : Int) = av := ⟨_, rfl⟩
            rw [hav] at HADR EA
            obtain ⟨gb, hgb⟩ : ∃ gb, w4.heap.size = gb := ⟨_, rfl⟩
            obtain ⟨ecs, hecs⟩ : ∃ ecs : Array Value, ecs = #[.string (lowS x.nm), .string ⟨#[]⟩, .bool false, .slice A ads.length c, .int .i64 0] := ⟨_, rfl⟩
            obtain ⟨Av, hAv⟩ : ∃ Av, Av = Value.slice A ads.length c := ⟨_, rfl⟩
            have EBc : Hid (Blk w8 gb 76 ecs) := by show Blk _ _ _ _; rw [hecs, ← hgb]; exact J8.out.e
            have nyg : yb ≠ gb := Y8.out.ne_ EBc.out (by decide)
            have OFG : Av.ownBlock ≠ some gb := by rw [hAv]; exact own_blk_ne J8.out.o EBc.out (by decide)
            have nyo : ¬ (Av.ownBlock = some yb) := by rw [hAv]; exact own_blk_ne J8.out.o Y8.out (by decide)
            have a3 : ∀ v : Ge w8 gb (fun i => Av.ownBlock = some i) 76 ecs, v.w.cell? ⟨gb, 3, none⟩ = some (.slice A ads.length c) := fun v => by rw [v.z.cell, hecs]; rfl
            have a4 : ∀ v : Ge w8 gb (fun i => Av.ownBlock = some i) 76 ecs, v.w.cell? ⟨yb, 4, none⟩ = some (.slice y.A y.da.length y.k) := fun v => (v.blk Y8.out nyg nyo).cell 4
            have hne1 : Nonempty (Ge w8 gb (fun i => Av.ownBlock = some i) 76 ecs) := ⟨⟨w8, Ce.refl _ _ _, EBc.out⟩⟩
            have OW1 : Hid ((w8.drew.alloc (.cells #[.int .u32 av] 33)).ownsRow gb 33 1 Av ads.length (ads.map (Value.int .u32))) := by
              show World.ownsRow _ _ _ _ _ _ _
              rw [hAv, ← hgb]
              exact (J8.out.o.drew).alloc _
            have hg8 : Hid (gb ≤ w8.heap.size) := by show _ ≤ _; rw [← hgb]; exact J8.out.bel.size
            have GB := Lib.hid hgb
            have HECS := Lib.hid hecs
            have HAV := Lib.hid hAv
            have NYO := Lib.hid nyo
            have NYG := Lib.hid nyg
            rw [hgb]
            clear hyb b78 hw9 J7 Y7 X7 d0 d1 d2 x0 hb8 hgb hecs hAv nyg nyo hav KK SM f1 f2 f3 HCELL
            go_wp2
            refine wp_region_che gb (fun i => Av.ownBlock = some i) 76 ecs 12 (by kernel_rfl) (by kernel_rfl) (by kernel_rfl) (by kernel_rfl) EBc.out ?_
            iterate 7 (refine che_early (by kernel_rfl) (by kernel_rfl) (by kernel_rfl) ?_; intro K hK; go_big_quiet_op; go_big_quiet_on)
            refine che_call w8.drew w8.drew (.int .u32 av) 63 #[.slice y.A y.da.length y.k] (by kernel_rfl) (by kernel_rfl) (by kernel_rfl) HADR.out (fun h => h) (fun _ h => h) ?_
            go_frame
            refine che_lit w8.drew (.cells #[.int .u32 av] 33) (.slice (some ⟨w8.heap.size, 0, none⟩) 1 1) (by kernel_rfl) (by kernel_rfl) (by first | rfl | (unfold execOp; simp [go_sem])) ?_
            go_frame
            refine che_app stAd (w8.drew.alloc (.cells #[.int .u32 av] 33)) (by kernel_rfl) (.tmp 92) (.tmp 96) rfl gb Av ads.length (ads.map (Value.int .u32)) HAV.out.symm OW1.out (fun i h => .inl h) OFG (some ⟨w8.heap.size, 0, none⟩) 1 1 [.int .u32 av] rfl (Reads.one (Blk.new w8.drew _ _)) (by intro u hu; simp only [List.mem_singleton] at hu; rw [hu]; rfl) (by omega) (by omega) (Nat.le_trans hg8.out (by simp)) (fun v6 w6 own6 gr6 at6 bel6 => ?_)
            obtain ⟨A6, n6, rfl⟩ := own_slice own6
            have O6 := Lib.hid own6
            have BL6 := Lib.hid bel6
            have EB6 : Hid (Blk w6 gb 76 ecs) := (EBc.out.drew.alloc _).grown gr6 (fun e => OFG e.symm)
            have Y6 := Lib.hid ((Y8.out.drew.alloc (.cells #[.int .u32 av] 33)).grown gr6 (fun e => NYO.out e.symm))
            clear own6 gr6 at6 bel6
            go_frame
            iterate 2 (refine che_early (by kernel_rfl) (by kernel_rfl) (by kernel_rfl) ?_; intro K hK; go_big_quiet_op; go_big_quiet_on)
            have h1 : w6.cell? ⟨gb, 3, none⟩ = some (.slice A ads.length c) := by rw [EB6.out.cell, HECS.out]; rfl
            have h2 := EB6.out.frozen 3
            refine che_store w6 (by kernel_rfl) 22 (.tmp 99) (.tmp 97) rfl rfl 3 (.slice A6 (ads.length + 1) n6) rfl rfl (by simp [go_sem, h1, h2]) ?_
            go_frame
            refine che_nil ?_
            intro wy hC hy
            subst hy
            have J9 : Hid (Jl w4 (w6.setCell ⟨gb, 3, none⟩ (.slice A6 (ads.length + 1) n6)) (lowS x.nm) (ads ++ [av]) A6 n6) := by
              have hle : (ads ++ [av]).length = ads.length + 1 := by simp
              have e9 := EB6.out.set_ 3 (.slice A6 (ads.length + 1) n6)
              rw [HECS.out] at e9
              have k9 := KeepT.of_set (i := 3) (ts := [76]) EB6.out (.slice A6 (ads.length + 1) n6) (.inr (by simp)) (Nat.le_refl _)
              refine ⟨?_, ?_, ?_⟩
              · have h3 : Below gb w4 (w8.drew.alloc (.cells #[.int .u32 av] 33)) := by
                  rw [← GB.out]
                  exact J8.out.bel.trans ((al (rf w8).drew _).mono J8.out.bel.size)
                rw [GB.out]
                exact (h3.trans BL6.out).setCell (Nat.le_refl _) _
              · rw [GB.out, hle]
                exact e9
              · rw [GB.out, hle, List.map_append]
                exact k9.own O6.out (by decide)
            have Y9 : Hid (Blk (w6.setCell ⟨gb, 3, none⟩ (.slice A6 (ads.length + 1) n6)) yb 48 #[.string y.nm, .int .i64 y.t, .int .i64 y.c, .int .i64 y.u, .slice y.A y.da.length y.k]) := Blk.far (p := ⟨gb, 3, none⟩) Y6.out NYG.out _
            clear a3 a4 hne1 hC h1 h2 EB6 O6 BL6 OW1 HADR EBc
            generalize w6.setCell ⟨gb, 3, none⟩ (.slice A6 (ads.length + 1) n6) = w9 at J9 Y9 ⊢
            obtain rfl : gb = w4.heap.size := GB.out.symm
            have d3 := Y9.out.cell 3
            simp only [List.getElem?_toArray, List.getElem?_cons_zero, List.getElem?_cons_succ] at d3
            have HLE2 : Hid ((if y.u < le then y.u else le) = min le y.u) := by show _ = _; split <;> omega
            go_wp2
            go_roundw
            case rel => exact ⟨j + 1, A6, n6, min le y.u, by go_num, by omega, rfl, by show _ = _; rw [EL.out]; exact HLE2.out, by show Jl _ _ _ _ _ _; rw [EA.out]; exact J9.out⟩
            case measure => simp [intOf]; omega
        · have et : (M.a.drop k).take j = M.a.drop k := List.take_of_length_le (by rw [List.length_drop]; omega)
          rw [et] at HLE HJ
          have hle := HLE.out
          have hlr := least_in x.nm (M.a.drop k) x.u HUX.out (fun r hr => HU.out r (List.mem_of_mem_drop hr))
          rw [hle] at hlr
          obtain ⟨ads, hads⟩ : ∃ ads, adsOf x.nm (M.a.drop k) = ads := ⟨_, rfl⟩
          obtain ⟨bh, hbh⟩ : ∃ bh, untilV now le = bh := ⟨_, rfl⟩
          rw [hads] at HJ
          rw [hle, hads, hbh] at E2
          have K4t := K4.out.t
          rw [E2.out] at K4t
          have hnew := new_of K4t HTP.out hTl
          obtain ⟨xe, hxe⟩ : ∃ xe : En, xe = ⟨lowS x.nm, ⟨#[]⟩, false, ads, A, c, bh⟩ := ⟨_, rfl⟩
          have hxk : xe.key = lowS x.nm := by rw [hxe]
          have KK := Lib.hid (K4.out.nx hB hn HJ.out.bel)
          have HUN : Hid (Calls Tryd.prog 62 #[.pointer (some ⟨wb, 0, none⟩), .int .i64 le] wr fun e w' => e = .returned (.int .i64 bh) ∧ w' = wr) := by
            rw [← hbh]
            exact untilC wr wb now le _ KK.out.W.b rfl t0 t1 hlr.1 hlr.2
          have JB : Below w4.heap.size w4 (wr.setCell ⟨w4.heap.size, 4, none⟩ (.int .i64 bh)) := HJ.out.bel.setCell (Nat.le_refl _) _
          have K10 := Lib.hid (K4.out.nx hB hn JB)
          have XE10 : Blk (wr.setCell ⟨w4.heap.size, 4, none⟩ (.int .i64 bh)) w4.heap.size 76 xe.cs := by rw [hxe]; exact HJ.out.e.set_ 4 _
          have hB4 : B ≤ w4.heap.size := by omega
          have AD10 : (wr.setCell ⟨w4.heap.size, 4, none⟩ (.int .i64 bh)).ownsRow B 33 1 (.slice xe.A xe.ad.length xe.k) xe.ad.length (xe.ad.map (Value.int .u32)) := by
            rw [hxe]
            exact own_base ((KeepT.of_set (i := 4) (ts := [76]) HJ.out.e (.int .i64 bh) (.inr (by simp)) (Nat.le_refl _)).own HJ.out.o (by decide)) hB4
          have HLAY := Lib.hid (layC _ B rb z.km w4.heap.size { z with age := .slice AA1 L1.length ac1 } AA1 ac1 L1 D1 xe K10.out.rv rfl rfl K10.out.K XE10 hB4 AD10 (by rw [hxk]; exact hnew.1) (by rw [hxk, lowS_size]; omega) hnew.2 (by have := JB.size; omega))
          have g4 := HJ.out.e.cell 4
          have fz4 := HJ.out.e.frozen 4
          have k0 := K10.out.W.b.cell 0
          simp only [List.getElem?_toArray, List.getElem?_cons_zero, List.getElem?_cons_succ] at g4 k0
          have HXE := Lib.hid hxe
          clear hle hlr hads hbh K4t hnew hxe hxk JB XE10 AD10 KK K4 HJ HLE
          unfold ptr at k0
          go_wp2_with fail
          refine HUN.out.mono ?_
          rintro e w9 ⟨rfl, ew⟩
          subst ew
          go_wp2_with fail
          refine HLAY.out.mono ?_
          intro e w11 h11
          obtain ⟨he, AA2, ac2, D2, K11⟩ := K10.out.lay hB hB0 hn hrb hkm (x := xe) (g := w4.heap.size) (R2 := keepL now (lowS x.nm :: done) (M.a.drop (k + 1))) (by rw [E2.out, HXE.out]; rfl) h11
          subst he
          have HK11 := Lib.hid K11
          clear K11 h11 HLAY HUN g4 fz4 k0
          go_wp2
          go_roundw
          case rel => exact ⟨k + 1, AA2, ac2, _, D2, _, by go_num, by omega, HK11.out⟩
          case measure => simp [intOf]; omega
    · have E2 := Lib.hid (keep_end (now := now) (done := done) (l := M.a) (k := k) (by omega))
      have FIN : Hid (KeepsP w B N wb rb z now draw fs FA fc ds DA dc T (.returned (.tuple #[])) wr) := by
        have ht := HK.out.t
        rw [E2.out, List.append_nil] at ht
        exact ⟨rfl, AA1, ac1, L1, D1, HK.out.rv, HK.out.W, HK.out.K, ht, HK.out.k, HK.out.b⟩
      go_wp2
      go_end0
      exact FIN.out
end
section
open Go.RowKit Go.Maps

set_option maxRecDepth 100000 in
set_option maxHeartbeats 1600000 in
theorem ofN1 (w : World) (B rb g : Nat) (z : Rz) (q : Qn) (M : Ms) (fr frp to_ top : Int) (DA : Option Addr) (dl dk : Nat) (x : Rc) (hR : IsRv w B rb z) (hqs : z.qs = [(g, q)]) (hM : IsM w M) (hq1 : M.q = [x]) (ht : x.t = 1) (hc : x.c = 1) 
    (s0 : 0 ≤ q.server) (s1 : q.server < z.sv.length) (hne : q.id ≠ M.id ∨ (q.id = M.id ∧ svAt z q.server ≠ fr) ∨ (q.id = M.id ∧ svAt z q.server = fr ∧ (low q.name == low x.nm) = false)) (n1 : q.name.size ≤ 3000) (n2 : x.nm.size ≤ 3000) :
    Calls Tryd.prog 41 #[.pointer (some ⟨rb, 0, none⟩), .agg #[.int .u32 fr, .int .i64 frp, .int .u32 to_, .int .i64 top, .slice DA dl dk], .agg #[.int .i64 M.id, .int .i64 M.fl, .slice M.Q 1 M.n, .slice M.A M.a.length M.m]] w fun e w' => e = .returned (.pointer none) ∧ Below w.heap.size w w' := by
  have hrow := hM.q
  rw [hq1] at hrow
  obtain ⟨ad, hQ, _, hcell⟩ := rows_rc (i := 0) (r := x) hrow rfl
  rw [Nat.zero_mul] at hcell
  have hz : (ad.add 0) = ad := by simp [Addr.add]
  rw [hz] at hcell
  have c0 : w.cell? ad = some (.string x.nm) := by have h := hcell 0 _ rfl; rwa [hz] at h
  have c1 : w.cell? ⟨ad.block, ad.off + 1, none⟩ = some (.int .i64 1) := by rw [← ht]; exact hcell 1 _ rfl
  have c2 : w.cell? ⟨ad.block, ad.off + 2, none⟩ = some (.int .i64 1) := by rw [← hc]; exact hcell 2 _ rfl
  have c3 : w.cell? ⟨ad.block, ad.off + 3, none⟩ = some (.int .i64 x.u) := hcell 3 _ rfl
  have c4 : w.cell? ⟨ad.block, ad.off + 4, none⟩ = some (.slice x.A x.da.length x.k) := hcell 4 _ rfl
  have hmem : (g, q) ∈ z.qs := by rw [hqs]; simp
  have hown := hR.qs
  rw [hqs] at hown
  obtain ⟨r, cap, hv, _, hrl, _, _, cur, hcur, _, htk⟩ := own_form hown (by simp)
  injection hv with hv1 _ hv3
  have hQA : z.QA = some ⟨r, 0, none⟩ := hv1
  have r3 : w.cell? ⟨rb, 3, none⟩ = some (.slice (some ⟨r, 0, none⟩) 1 cap) := by
    have h := hR.b.cell 3
    simp only [Rz.cs, List.getElem?_toArray, List.getElem?_cons_zero, List.getElem?_cons_succ] at h
    have hQC : z.qc = cap := hv3
    rw [h, hQA, hQC, hqs]; rfl
  have p0 : w.cell? ⟨r, 0, none⟩ = some (.pointer (some ⟨g, 0, none⟩)) := by
    rw [hcur.cell]
    have h := congrArg (fun l : List Value => l[0]?) htk
    simp only [List.getElem?_take_of_lt (show 0 < [(g, q)].length by simp), Array.getElem?_toList] at h
    exact h
  have qb := (hR.q _ hmem).1
  have q3 : w.cell? ⟨g, 3, none⟩ = some (.int .i64 q.id) := qb.cell 3
  obtain ⟨sn, hsn⟩ : ∃ n : Nat, q.server = n := ⟨q.server.toNat, by omega⟩
  have q4 : w.cell? ⟨g, 4, none⟩ = some (.int .i64 sn) := by rw [← hsn]; exact qb.cell 4
  have q1 : w.cell? ⟨g, 1, none⟩ = some (.string q.name) := qb.cell 1
  have hsl : sn < z.sv.length := by omega
  obtain ⟨sad, u, hSA, hsab, hu, hsc⟩ := (Reads.of_own hR.sv).at_ hsl
  obtain ⟨v, hvv⟩ : ∃ v, z.sv[sn]? = some v := ⟨_, List.getElem?_eq_getElem hsl⟩
  have hus : u = .int .u32 v := by rw [List.getElem?_map, hvv] at hu; exact (Option.some.inj hu).symm
  subst hus
  have hfv : svAt z q.server = v := by unfold svAt; rw [hsn, Int.toNat_natCast, hvv]; rfl
  rw [hfv] at hne
  have r0 : w.cell? ⟨rb, 0, none⟩ = some (.slice (some sad) z.sv.length z.sc) := by rw [← hSA]; exact hR.b.cell 0
  have hrb := hR.b.lt
  have hgl := qb.lt
  have k0 : (0 : Int) ≤ sn := by omega
  have k1 : (sn : Int) < z.sv.length := by omega
  have D0 := Blk.new w 36 #[.int .u32 fr, .int .i64 frp, .int .u32 to_, .int .i64 top, .slice DA dl dk]
  have b1 : Below w.heap.size w (w.alloc (.cells #[.int .u32 fr, .int .i64 frp, .int .u32 to_, .int .i64 top, .slice DA dl dk] 36)) := al (rf w) _
  have hs1 : (w.alloc (.cells #[.int .u32 fr, .int .i64 frp, .int .u32 to_, .int .i64 top, .slice DA dl dk] 36)).heap.size = w.heap.size + 1 := by simp
  have b2 : Below w.heap.size w ((w.alloc (.cells #[.int .u32 fr, .int .i64 frp, .int .u32 to_, .int .i64 top, .slice DA dl dk] 36)).alloc (.cells #[.int .i64 M.id, .int .i64 M.fl, .slice M.Q 1 M.n, .slice M.A M.a.length M.m] 43)) := al b1 _
  have M0 := blk_at (w.alloc (.cells #[.int .u32 fr, .int .i64 frp, .int .u32 to_, .int .i64 top, .slice DA dl dk] 36)) 43 #[.int .i64 M.id, .int .i64 M.fl, .slice M.Q 1 M.n, .slice M.A M.a.length M.m] hs1.symm
  have D1 := Lib.hid (D0.alloc (.cells #[.int .i64 M.id, .int .i64 M.fl, .slice M.Q 1 M.n, .slice M.A M.a.length M.m] 43))
  have M1 := Lib.hid M0
  have B2 := Lib.hid b2
  have HR := Lib.hid hR
  have HQS := Lib.hid hqs
  have HC := Lib.hid hcell
  have HT := Lib.hid ht
  have HCC := Lib.hid hc
  obtain ⟨qi, hqi⟩ : ∃ qi, q.id = qi := ⟨_, rfl⟩
  rw [hqi] at q3 hne
  clear hR hqs hM hq1 hrow hcell hz D0 b1 hs1 b2 M0 ht hc hown hqi hfv hv1 hv3 hQA hcur htk qb hsn hsl hu hvv hmem hSA s0 s1
  rw [hQ]
  rw [hQ] at D1 M1 B2
  have B3 : Hid (Below w.heap.size w (((w.alloc (.cells #[.int .u32 fr, .int .i64 frp, .int .u32 to_, .int .i64 top, .slice DA dl dk] 36)).alloc (.cells #[.int .i64 M.id, .int .i64 M.fl, .slice (some ad) 1 M.n, .slice M.A M.a.length M.m] 43)).alloc (.cells #[.string x.nm, .int .i64 1, .int .i64 1, .int .i64 x.u, .slice x.A x.da.length x.k] 48))) := al B2.out _
  have old : ∀ p : Addr, p.block < w.heap.size → ((((w.alloc (.cells #[.int .u32 fr, .int .i64 frp, .int .u32 to_, .int .i64 top, .slice DA dl dk] 36)).alloc (.cells #[.int .i64 M.id, .int .i64 M.fl, .slice (some ad) 1 M.n, .slice M.A M.a.length M.m] 43)).alloc (.cells #[.string x.nm, .int .i64 1, .int .i64 1, .int .i64 x.u, .slice x.A x.da.length x.k] 48))).cell? p = w.cell? p := fun p hp => B3.out.cell hp
  have R3 := (old ⟨rb, 3, none⟩ hrb).trans r3
  have R0 := (old ⟨rb, 0, none⟩ hrb).trans r0
  have P0 := (old ⟨r, 0, none⟩ hrl).trans p0
  have Q1 := (old ⟨g, 1, none⟩ hgl).trans q1
  have Q3 := (old ⟨g, 3, none⟩ hgl).trans q3
  have Q4 := (old ⟨g, 4, none⟩ hgl).trans q4
  have SC := (old (sad.add sn) (by rw [block_of_add]; exact hsab)).trans hsc
  have hs2 : ((w.alloc (.cells #[.int .u32 fr, .int .i64 frp, .int .u32 to_, .int .i64 top, .slice DA dl dk] 36)).alloc (.cells #[.int .i64 M.id, .int .i64 M.fl, .slice (some ad) 1 M.n, .slice M.A M.a.length M.m] 43)).heap.size = w.heap.size + 1 + 1 := by simp
  have X1 := blk_at ((w.alloc (.cells #[.int .u32 fr, .int .i64 frp, .int .u32 to_, .int .i64 top, .slice DA dl dk] 36)).alloc (.cells #[.int .i64 M.id, .int .i64 M.fl, .slice (some ad) 1 M.n, .slice M.A M.a.length M.m] 43)) 48 #[.string x.nm, .int .i64 1, .int .i64 1, .int .i64 x.u, .slice x.A x.da.length x.k] hs2.symm
  have D3 := (D1.out.alloc (.cells #[.string x.nm, .int .i64 1, .int .i64 1, .int .i64 x.u, .slice x.A x.da.length x.k] 48)).cell 0
  have M3 := (M1.out.alloc (.cells #[.string x.nm, .int .i64 1, .int .i64 1, .int .i64 x.u, .slice x.A x.da.length x.k] 48)).cell 0
  have X3 := X1.cell 0
  simp only [List.getElem?_toArray, List.getElem?_cons_zero] at D3 M3 X3
  clear old hs2 X1
  go_enter Tryd.func41, Tryd.ntmps41
  go_wp2
  clear c0 c1 c2 c3 c4 r3 r0 p0 q1 q3 q4 hsc
  generalize (((w.alloc (.cells #[.int .u32 fr, .int .i64 frp, .int .u32 to_, .int .i64 top, .slice DA dl dk] 36)).alloc (.cells #[.int .i64 M.id, .int .i64 M.fl, .slice (some ad) 1 M.n, .slice M.A M.a.length M.m] 43)).alloc (.cells #[.string x.nm, .int .i64 1, .int .i64 1, .int .i64 x.u, .slice x.A x.da.length x.k] 48)) = w9 at B3 R3 R0 P0 Q1 Q3 Q4 SC D3 M3 X3 ⊢
  obtain ⟨wz, hwz⟩ : ∃ wz, wz = w9 := ⟨_, rfl⟩
  have HWZ := Lib.hid hwz
  clear hwz D1 M1 B2
  have HNE := Lib.hid hne
  clear hne
  go_loopw [27] (fun kv ws => ∃ k n : Nat, kv = .int .i64 k ∧ k ≤ 1 ∧ Hid (ws = wz.drewN n)) (fun kv _ => 1 - (intOf kv).toNat)
  case atStart => exact ⟨0, 0, rfl, by omega, HWZ.out.symm⟩
  case round =>
    obtain ⟨k, n, rfl, hk, HW⟩ := hrel
    have ew : wr = w9.drewN n := by rw [HW.out, HWZ.out]
    have EW := Lib.hid ew
    replace R3 := (show (w9.drewN n).cell? _ = _ from R3)
    replace R0 := (show (w9.drewN n).cell? _ = _ from R0)
    replace P0 := (show (w9.drewN n).cell? _ = _ from P0)
    replace Q1 := (show (w9.drewN n).cell? _ = _ from Q1)
    replace Q3 := (show (w9.drewN n).cell? _ = _ from Q3)
    replace Q4 := (show (w9.drewN n).cell? _ = _ from Q4)
    replace SC := (show (w9.drewN n).cell? _ = _ from SC)
    replace D3 := (show (w9.drewN n).cell? _ = _ from D3)
    replace M3 := (show (w9.drewN n).cell? _ = _ from M3)
    replace X3 := (show (w9.drewN n).cell? _ = _ from X3)
    rw [← ew] at R3 R0 P0 Q1 Q3 Q4 SC D3 M3 X3
    clear ew
    by_cases hlt : k < 1
    · obtain rfl : k = 0 := by omega
      clear hk hlt
      rcases HNE.out with h1 | ⟨h1, h2⟩ | ⟨h1, h2, h3⟩
      · have ee1 : (qi == M.id) = false := by simpa using h1
        clear h1
        go_wp2
        go_quiet (fail)
        go_wp2
        go_roundw
        case rel => exact ⟨1, n + nq, by go_num, by omega, by show _ = _; rw [HW.out, World.drewN_drewN]⟩
        case measure => simp [intOf]
      · have ee1 : (qi == M.id) = true := by simpa using h1
        have ee2 : (v == fr) = false := by simpa using h2
        clear h1 h2
        go_wp2
        go_quiet (fail)
        go_wp2
        go_roundw
        case rel => exact ⟨1, n + nq, by go_num, by omega, by show _ = _; rw [HW.out, World.drewN_drewN]⟩
        case measure => simp [intOf]
      · have ee1 : (qi == M.id) = true := by simpa using h1
        have ee2 : (v == fr) = true := by simpa using h2
        have HSA : Hid (∀ w : World, Calls Tryd.prog 14 #[.string q.name, .string x.nm] w fun e w' => e = .returned (.bool false) ∧ ∃ n, w' = w.drewN n) := fun w => by
          have h := sameC q.name x.nm w (by omega) (by omega)
          rw [h3] at h
          exact h
        clear h1 h2 h3
        go_wp2
        go_quiet ((go_at_call 14; exact Calls.quiet_of (HSA.out _)))
        go_wp2
        go_roundw
        case rel => exact ⟨1, n + nq, by go_num, by omega, by show _ = _; rw [HW.out, World.drewN_drewN]⟩
        case measure => simp [intOf]
    · obtain rfl : k = 1 := by omega
      clear hk hlt
      go_wp2
      go_ret
      exact ⟨rfl, by rw [EW.out]; exact dn B3.out _⟩
end
section
open Go.RowKit Go.Maps

def Rc.norm (r : Rc) : Rc := { r with A := none, k := 0 }
theorem keepL_norm {now : Int} : ∀ (l : List Rc) (done : List ByteArray), keepL now done (l.map Rc.norm) = keepL now done l := by
  intro l
  induction l with
  | nil => intro _; rfl
  | cons x l ih =>
    intro done
    have hf : ∀ (l : List Rc), (l.map Rc.norm).filter (ofA x.nm) = (l.filter (ofA x.nm)).map Rc.norm := fun l => by
      rw [List.filter_map]; rfl
    have ha : ∀ l : List Rc, adsOf x.nm (l.map Rc.norm) = adsOf x.nm l := fun l => by
      unfold adsOf
      rw [hf, List.map_map]; rfl
    have hl : ∀ (l : List Rc) (u : Int), leastOf x.nm u (l.map Rc.norm) = leastOf x.nm u l := fun l u => by
      unfold leastOf
      rw [hf, List.foldl_map]; rfl
    have e1 := ha (x :: l)
    have e2 := hl (x :: l) x.u
    rw [List.map_cons] at e1 e2 ⊢
    unfold keepL
    show (if x.c ≠ 1 then _ else _) = _
    by_cases hc : x.c ≠ 1
    · rw [if_pos hc, if_pos hc]; exact ih done
    · rw [if_neg hc, if_neg hc]
      show (if x.t = 5 then _ else _) = _
      by_cases ht : x.t = 5
      · rw [if_pos ht, if_pos ht, ih]; rfl
      · rw [if_neg ht, if_neg ht]
        show (if x.t = 1 ∧ inD done (lowS x.nm) = false then _ else _) = _
        by_cases hd : x.t = 1 ∧ inD done (lowS x.nm) = false
        · rw [if_pos hd, if_pos hd]
          show Pe.mk (lowS x.nm) ⟨#[]⟩ false (adsOf x.nm (x.norm :: l.map Rc.norm)) (untilV now (leastOf x.nm x.u (x.norm :: l.map Rc.norm))) :: keepL now (lowS x.nm :: done) (l.map Rc.norm) = _
          rw [e1, e2, ih]
        · rw [if_neg hd, if_neg hd]; exact ih done
theorem norm_key {l l2 : List Rc} (h : l2.map Rc.key = l.map Rc.key) : l2.map Rc.norm = l.map Rc.norm := by
  have e : ∀ l : List Rc, l.map Rc.norm = (l.map Rc.key).map fun p => ⟨p.1, p.2.1, p.2.2.1, p.2.2.2.1, p.2.2.2.2, none, 0⟩ := fun l => by
    rw [List.map_map]; rfl
  rw [e l2, e l, h]
theorem keepL_key {now : Int} {l l2 : List Rc} {done : List ByteArray} (h : l2.map Rc.key = l.map Rc.key) : keepL now done l2 = keepL now done l := by
  rw [← keepL_norm l2, ← keepL_norm l, norm_key h]
theorem u_key {l l2 : List Rc} (h : l2.map Rc.key = l.map Rc.key) (hu : ∀ r ∈ l, 0 ≤ r.u ∧ r.u ≤ 2147483647) : ∀ r ∈ l2, 0 ≤ r.u ∧ r.u ≤ 2147483647 := fun r hr => by
  have h1 : r.key ∈ l.map Rc.key := by rw [← h]; exact List.mem_map.2 ⟨r, hr, rfl⟩
  obtain ⟨x, hx, he⟩ := List.mem_map.1 h1
  have e : x.u = r.u := congrArg (fun p => p.2.2.2.1) he
  rw [← e]
  exact hu x hx
def HearP (w : World) (B rb : Nat) (z : Rz) (q : Qn) (now draw : Int) (T : List Pe) (e : Ending) (w' : World) : Prop :=
  ∃ (AA' : Option Addr) (ac' : Nat) (L' : List (Nat × En)) (D' : DataW Unit) (err : Int) (ads : List Int) (nm : ByteArray) (fo : Int) (A' : Option Addr) (k' : Nat) (QA' : Option Addr) (qc' : Nat) (FA : Option Addr) (fc : Nat),
    e = .returned (.tuple #[.slice FA 1 fc, .slice none 0 0]) ∧ (L'.map fun p => p.2.pl) = T ∧ chase L' now (9 - q.follows).toNat q.name q.follows = (some (err, ads), nm, fo) ∧
    IsRv w' B rb { z with age := .slice AA' L'.length ac', qs := [], QA := QA', qc := qc' } ∧ IsKp w' B z.km AA' ac' L' D' ∧
    w'.ownsRow w.heap.size 39 3 (.slice FA 1 fc) 1 (Fd.cs ⟨q.first, err, ads, A', k'⟩) ∧ w'.ownsRow w.heap.size 33 1 (.slice A' ads.length k') ads.length (ads.map (Value.int .u32)) ∧
    KeepT w.heap.size [68, 64, 66, 60, 74] w w' ∧ Below B w w'
theorem hearPort (w : World) (B rb : Nat) (z : Rz) (fr frp to_ top now draw : Int) (A : Option Addr) (n c : Nat) (hR : IsRv w B rb z) (hp : (top != z.port) = true ∨ ((top != z.port) = false ∧ (frp != 53) = true)) :
    Calls Tryd.prog 16 #[.pointer (some ⟨rb, 0, none⟩), .agg #[.int .u32 fr, .int .i64 frp, .int .u32 to_, .int .i64 top, .slice A n c], .int .i64 now, .int .i64 draw] w fun e w' => e = .returned (.tuple #[.slice none 0 0, .slice none 0 0]) ∧ Below w.heap.size w w' := by
  have b1 : Below w.heap.size w (w.alloc (.cells #[.int .u32 fr, .int .i64 frp, .int .u32 to_, .int .i64 top, .slice A n c] 36)) := al (rf w) _
  have DB := Blk.new w 36 #[.int .u32 fr, .int .i64 frp, .int .u32 to_, .int .i64 top, .slice A n c]
  have r1 := (hR.nx b1).b.cell 1
  have d1 := DB.cell 1
  have d3 := DB.cell 3
  simp only [Rz.cs, List.getElem?_toArray, List.getElem?_cons_zero, List.getElem?_cons_succ] at r1 d1 d3
  have B1 := Lib.hid b1
  clear b1 DB hR
  rcases hp with h1 | ⟨h1, h2⟩
  all_goals
    go_enter Tryd.func16, Tryd.ntmps16
    go_wp2
    go_quiet (fail)
    go_wp2
    go_ret2
    exact ⟨rfl, dn B1.out _⟩
set_option maxRecDepth 100000 in
set_option maxHeartbeats 3200000 in
theorem hearDrop (w : World) (B rb g : Nat) (z : Rz) (q : Qn) (M : Ms) (x : Rc) (fr to_ now draw : Int) (l : List UInt8) (ga c : Nat) (hR : IsRv w B rb z) (hqs : z.qs = [(g, q)]) (hm : MaxL w) (hB : B ≤ w.heap.size) (hB0 : 0 < B)
    (hz : wrongI M = 0) (hMd : ∀ r ∈ M.a, r.da.length ≤ 3000) (hMn : ∀ r ∈ M.a, r.nm.size ≤ 3000) (hMq : M.q = [x]) (ht : x.t = 1) (hc : x.c = 1) (hxn : x.nm.size ≤ 3000) (hl : l = encM M) (hb : Bytes w (some ⟨ga, 0, none⟩) l) (hty : RowTy w (some ⟨ga, 0, none⟩)) (hll : l.length ≤ 1000000) (hlc : l.length ≤ c)
    (hf1 : bits .and .i64 M.fl 32768 = 32768) (hne : q.id ≠ M.id ∨ (q.id = M.id ∧ svAt z q.server ≠ fr) ∨ (q.id = M.id ∧ svAt z q.server = fr ∧ (low q.name == low x.nm) = false)) (s0 : 0 ≤ q.server) (s1 : q.server < z.sv.length) (hns : q.name.size ≤ 3000) (top : Int) (htop : top = z.port) :
    Calls Tryd.prog 16 #[.pointer (some ⟨rb, 0, none⟩), .agg #[.int .u32 fr, .int .i64 53, .int .u32 to_, .int .i64 top, .slice (some ⟨ga, 0, none⟩) l.length c], .int .i64 now, .int .i64 draw] w fun e w' => e = .returned (.tuple #[.slice none 0 0, .slice none 0 0]) ∧ Below w.heap.size w w' := by
  subst htop
  have b1 : Below w.heap.size w (w.alloc (.cells #[.int .u32 fr, .int .i64 53, .int .u32 to_, .int .i64 z.port, .slice (some ⟨ga, 0, none⟩) l.length c] 36)) := al (rf w) _
  have DB := Blk.new w 36 #[.int .u32 fr, .int .i64 53, .int .u32 to_, .int .i64 z.port, .slice (some ⟨ga, 0, none⟩) l.length c]
  have R1 := hR.nx b1
  have r1 := R1.b.cell 1
  have d1 := DB.cell 1
  have d3 := DB.cell 3
  have d4 := DB.cell 4
  simp only [Rz.cs, List.getElem?_toArray, List.getElem?_cons_zero, List.getElem?_cons_succ] at r1 d1 d3 d4
  have hw0 : 0 < w.heap.size := by omega
  have HDEC : Hid (∀ w2, Below w.heap.size w w2 → Calls Tryd.prog 13 #[.slice (some ⟨ga, 0, none⟩) l.length c] w2 (DecP2 M w2)) := fun w2 h2 =>
    decC2 w2 M hz hMd (by rw [hMq]; simp; exact hxn) hMn [] l (by rw [List.append_nil]; exact hl) ga 0 c (hb.nx h2) (hty.nx h2) hll hlc
  have hpp : (z.port != z.port) = false := by simp
  have HR := Lib.hid hR
  have HM := Lib.hid hm
  have HQS := Lib.hid hqs
  have B1 := Lib.hid b1
  have DB1 := Lib.hid DB
  have HMQ := Lib.hid hMq
  have HT := Lib.hid ht
  have HCC := Lib.hid hc
  have HF1 := Lib.hid hf1
  have HNE := Lib.hid hne
  clear hR hqs hm b1 DB R1 hz hMd hMn hMq ht hc hl hb hty hf1 hne
  go_enter Tryd.func16, Tryd.ntmps16
  go_wp2
  go_quiet (fail)
  generalize hwd : (w.alloc (.cells #[.int .u32 fr, .int .i64 53, .int .u32 to_, .int .i64 z.port, .slice (some ⟨ga, 0, none⟩) l.length c] 36)) = w1 at B1 DB1 r1 d1 d3 d4 ⊢
  have HWD := Lib.hid hwd
  clear hwd
  go_wp2_with fail
  refine (HDEC.out _ (dn B1.out _)).mono ?_
  rintro e w3 ⟨M2, ⟨he, e1, e2, e3, e4, i4, b4⟩, hcap, _, _, _⟩
  obtain ⟨id2, fl2, q2, a2, Q2, A2, n2, m2⟩ := M2
  rw [HMQ.out] at e3
  simp only [List.map_cons, List.map_nil] at e1 e2 e3 e4 hcap
  have e1 := e1.symm
  have e2 := e2.symm
  subst e1 e2 e3
  have he2 : e = .returned (.tuple #[.agg #[.int .i64 M.id, .int .i64 M.fl, .slice Q2 1 n2, .slice A2 a2.length m2], .int .i64 0]) := by rw [he]; rfl
  subst he2
  have B3 := Lib.hid (nx (dn B1.out _) b4)
  have I3 := Lib.hid (i4 w3 (Nat.le_refl _) (fun _ _ _ => rfl))
  have DB3 := Lib.hid (DB1.out.nx (nx (dn (rf w1) _) b4))
  have kM : Below w3.heap.size w3 (w3.alloc (.cells #[.int .i64 M.id, .int .i64 M.fl, .slice Q2 1 n2, .slice A2 a2.length m2] 43)) := al (rf w3) _
  have B5 := Lib.hid (nx B3.out kM)
  have I5 := Lib.hid (I3.out.nx kM)
  have DB5 := Lib.hid (DB3.out.nx kM)
  have MB5 := Lib.hid (Blk.new w3 43 #[.int .i64 M.id, .int .i64 M.fl, .slice Q2 1 n2, .slice A2 a2.length m2])
  have R5 := Lib.hid (HR.out.nx B5.out)
  have x0 := DB5.out.cell 0
  have x1 := DB5.out.cell 1
  have x2 := DB5.out.cell 2
  have x3 := DB5.out.cell 3
  have x4 := DB5.out.cell 4
  have y0 := MB5.out.cell 0
  have y1 := MB5.out.cell 1
  have y2 := MB5.out.cell 2
  have y3 := MB5.out.cell 3
  simp only [List.getElem?_toArray, List.getElem?_cons_zero, List.getElem?_cons_succ] at x0 x1 x2 x3 x4 y0 y1 y2 y3
  have hfb : (bits .and .i64 M.fl 32768 == 0) = false := by rw [HF1.out]; rfl
  have HOF := Lib.hid (ofN1 (w3.alloc (.cells #[.int .i64 M.id, .int .i64 M.fl, .slice Q2 1 n2, .slice A2 a2.length m2] 43)) B rb g z q ⟨M.id, M.fl, [rqZ x], a2, Q2, A2, n2, m2⟩ fr 53 to_ z.port (some ⟨ga, 0, none⟩) l.length c (rqZ x) R5.out HQS.out I5.out rfl HT.out HCC.out s0 s1 HNE.out hns hxn)
  clear he e4 i4 b4 kM r1 d1 d3 d4 HDEC B1 DB1 DB3 I3 HWD
  go_wp2_with fail
  generalize (w3.alloc (.cells #[.int .i64 M.id, .int .i64 M.fl, .slice Q2 1 n2, .slice A2 a2.length m2] 43)) = w5 at B5 I5 DB5 MB5 R5 x0 x1 x2 x3 x4 y0 y1 y2 y3 HOF ⊢
  refine HOF.out.mono ?_
  rintro e w6 ⟨rfl, b6⟩
  have B6 := Lib.hid (nx B5.out b6)
  clear b6 HOF
  go_wp2
  go_ret2
  exact ⟨rfl, B6.out⟩
set_option maxRecDepth 100000 in
set_option maxHeartbeats 3200000 in
theorem hearKeep (w : World) (B rb g : Nat) (z : Rz) (q : Qn) (M : Ms) (x : Rc) (fr to_ now draw code : Int) (l : List UInt8) (ga c : Nat) (AA : Option Addr) (ac : Nat) (L : List (Nat × En)) (Dm : DataW Unit) (T : List Pe) (hR : IsRv w B rb z) (hqs : z.qs = [(g, q)]) (hm : MaxL w) (hB : B ≤ w.heap.size) (hB0 : 0 < B)
    (hz : wrongI M = 0) (hMd : ∀ r ∈ M.a, r.da.length ≤ 3000) (hMn : ∀ r ∈ M.a, r.nm.size ≤ 3000) (hMq : M.q = [x]) (ht : x.t = 1) (hc : x.c = 1) (hxn : x.nm.size ≤ 3000) (hl : l = encM M) (hb : Bytes w (some ⟨ga, 0, none⟩) l) (hty : RowTy w (some ⟨ga, 0, none⟩)) (hll : l.length ≤ 1000000) (hlc : l.length ≤ c)
    (hf1 : bits .and .i64 M.fl 32768 = 32768) (hf2 : bits .and .i64 M.fl 15 = code) (hid : q.id = M.id) (s0 : 0 ≤ q.server) (s1 : q.server < z.sv.length) (hfr : fr = svAt z q.server) (hnm : (low q.name == low x.nm) = true) (hns : q.name.size ≤ 3000) (top : Int) (htop : top = z.port)
    (hcode : code = 0) (hage : z.age = .slice AA L.length ac) (hK : IsKp w B z.km AA ac L Dm) (hT : (L.map fun p => p.2.pl) ++ keepL now [] M.a = T) (hTp : T.Pairwise fun a b => a.key ≠ b.key) (hTl : T.length ≤ 64)
    (hch : ∀ L' : List (Nat × En), (L'.map fun p => p.2.pl) = T → lookL L' now q.name ≠ none ∧ ∃ err ads nm fo, chase L' now (9 - q.follows).toNat q.name q.follows = (some (err, ads), nm, fo))
    (hcn : ∀ p ∈ T, p.leads = true → isN p.cname.data.toList = true ∧ p.cname.size ≤ 3000) (had : ∀ p ∈ T, p.ad.length ≤ 1000000) (f0 : 0 ≤ q.follows) (f1 : q.follows ≤ 8) (hqn : isN q.name.data.toList = true)
    (sv1 : 1 ≤ z.sv.length) (sv3 : z.sv.length ≤ 3) (n0 : 0 ≤ now) (n1 : now ≤ 1152921504606846976) (se0 : 0 ≤ z.sent) (se1 : z.sent ≤ 1152921504606846976) :
    Calls Tryd.prog 16 #[.pointer (some ⟨rb, 0, none⟩), .agg #[.int .u32 fr, .int .i64 53, .int .u32 to_, .int .i64 top, .slice (some ⟨ga, 0, none⟩) l.length c], .int .i64 now, .int .i64 draw] w (HearP w B rb z q now draw T) := by
  subst htop
  have b1 : Below w.heap.size w (w.alloc (.cells #[.int .u32 fr, .int .i64 53, .int .u32 to_, .int .i64 z.port, .slice (some ⟨ga, 0, none⟩) l.length c] 36)) := al (rf w) _
  have DB := Blk.new w 36 #[.int .u32 fr, .int .i64 53, .int .u32 to_, .int .i64 z.port, .slice (some ⟨ga, 0, none⟩) l.length c]
  have R1 := hR.nx b1
  have r1 := R1.b.cell 1
  have d1 := DB.cell 1
  have d3 := DB.cell 3
  have d4 := DB.cell 4
  simp only [Rz.cs, List.getElem?_toArray, List.getElem?_cons_zero, List.getElem?_cons_succ] at r1 d1 d3 d4
  have hw0 : 0 < w.heap.size := by omega
  have HDEC : Hid (∀ w2, Below w.heap.size w w2 → Calls Tryd.prog 13 #[.slice (some ⟨ga, 0, none⟩) l.length c] w2 (DecP2 M w2)) := fun w2 h2 =>
    decC2 w2 M hz hMd (by rw [hMq]; simp; exact hxn) hMn [] l (by rw [List.append_nil]; exact hl) ga 0 c (hb.nx h2) (hty.nx h2) hll hlc
  have hpp : (z.port != z.port) = false := by simp
  have HU0 : Hid (∀ r ∈ M.a, 0 ≤ r.u ∧ r.u ≤ 2147483647) := fun r hr => ⟨((mok_of hz).a r hr).u0, ((mok_of hz).a r hr).u1⟩
  have HK := Lib.hid hK
  have HAG := Lib.hid hage
  have HTT := Lib.hid hT
  have HTP := Lib.hid hTp
  have HCH := Lib.hid hch
  have HCN := Lib.hid hcn
  have HAD := Lib.hid had
  have HQN := Lib.hid hqn
  have hkl := World.ownsMap.lt hK.own
  have hrl := hR.b.lt
  have HR := Lib.hid hR
  have HM := Lib.hid hm
  have HQS := Lib.hid hqs
  have B1 := Lib.hid b1
  have DB1 := Lib.hid DB
  have HMQ := Lib.hid hMq
  have HT := Lib.hid ht
  have HCC := Lib.hid hc
  have HF1 := Lib.hid hf1
  have HF2 := Lib.hid hf2
  have HID := Lib.hid hid
  have HFR := Lib.hid hfr
  have HNM := Lib.hid hnm
  clear hK hage hT hTp hch hcn had hqn hR hqs hm b1 DB R1 hz hMd hMn hMq ht hc hl hb hty hf1 hf2 hid hfr hnm
  go_enter Tryd.func16, Tryd.ntmps16
  go_wp2
  go_quiet (fail)
  generalize hwd : (w.alloc (.cells #[.int .u32 fr, .int .i64 53, .int .u32 to_, .int .i64 z.port, .slice (some ⟨ga, 0, none⟩) l.length c] 36)) = w1 at B1 DB1 r1 d1 d3 d4 ⊢
  have HWD := Lib.hid hwd
  clear hwd
  go_wp2_with fail
  refine (HDEC.out _ (dn B1.out _)).mono ?_
  rintro e w3 ⟨M2, ⟨he, e1, e2, e3, e4, i4, b4⟩, hcap, _, _, _⟩
  obtain ⟨id2, fl2, q2, a2, Q2, A2, n2, m2⟩ := M2
  rw [HMQ.out] at e3
  simp only [List.map_cons, List.map_nil] at e1 e2 e3 e4 hcap
  have e1 := e1.symm
  have e2 := e2.symm
  subst e1 e2 e3
  have he2 : e = .returned (.tuple #[.agg #[.int .i64 M.id, .int .i64 M.fl, .slice Q2 1 n2, .slice A2 a2.length m2], .int .i64 0]) := by rw [he]; rfl
  subst he2
  have B3 := Lib.hid (nx (dn B1.out _) b4)
  have I4 := Lib.hid i4
  have hdz : w.heap.size ≤ w3.heap.size := (nx (dn B1.out _) b4).size
  have hdz1 := (dn B1.out nq).size
  have E4 := Lib.hid e4
  have hcap1 : a2.length ≤ m2 := hcap
  have I3 := Lib.hid (i4 w3 (Nat.le_refl _) (fun _ _ _ => rfl))
  have DB3 := Lib.hid (DB1.out.nx (nx (dn (rf w1) _) b4))
  have kM : Below w3.heap.size w3 (w3.alloc (.cells #[.int .i64 M.id, .int .i64 M.fl, .slice Q2 1 n2, .slice A2 a2.length m2] 43)) := al (rf w3) _
  have B5 := Lib.hid (nx B3.out kM)
  have I5 := Lib.hid (I3.out.nx kM)
  have DB5 := Lib.hid (DB3.out.nx kM)
  have MB5 := Lib.hid (Blk.new w3 43 #[.int .i64 M.id, .int .i64 M.fl, .slice Q2 1 n2, .slice A2 a2.length m2])
  have R5 := Lib.hid (HR.out.nx B5.out)
  have x0 := DB5.out.cell 0
  have x1 := DB5.out.cell 1
  have x2 := DB5.out.cell 2
  have x3 := DB5.out.cell 3
  have x4 := DB5.out.cell 4
  have y0 := MB5.out.cell 0
  have y1 := MB5.out.cell 1
  have y2 := MB5.out.cell 2
  have y3 := MB5.out.cell 3
  simp only [List.getElem?_toArray, List.getElem?_cons_zero, List.getElem?_cons_succ] at x0 x1 x2 x3 x4 y0 y1 y2 y3
  have hfb : (bits .and .i64 M.fl 32768 == 0) = false := by rw [HF1.out]; rfl
  have HOF := Lib.hid (ofC1 (w3.alloc (.cells #[.int .i64 M.id, .int .i64 M.fl, .slice Q2 1 n2, .slice A2 a2.length m2] 43)) B rb g z q ⟨M.id, M.fl, [rqZ x], a2, Q2, A2, n2, m2⟩ fr 53 to_ z.port (some ⟨ga, 0, none⟩) l.length c (rqZ x) R5.out HQS.out I5.out rfl HT.out HCC.out HID.out s0 s1 HFR.out HNM.out hns hxn)
  have K35 := Lib.hid kM
  clear he e4 i4 b4 kM hcap r1 d1 d3 d4 HDEC B1 DB1 DB3 I3 HWD
  go_wp2_with fail
  generalize (w3.alloc (.cells #[.int .i64 M.id, .int .i64 M.fl, .slice Q2 1 n2, .slice A2 a2.length m2] 43)) = w5 at K35 B5 I5 DB5 MB5 R5 x0 x1 x2 x3 x4 y0 y1 y2 y3 HOF ⊢
  refine HOF.out.mono ?_
  rintro e w6 ⟨rfl, b6⟩
  have B6 := Lib.hid (nx B5.out b6)
  have R6 := Lib.hid (R5.out.nx b6)
  have MB6 := Lib.hid (MB5.out.nx b6)
  have K36 := Lib.hid (nx K35.out b6)
  have yy1 := (MB6.out.alloc (.cells #[.pointer (some ⟨rb, 0, none⟩), .int .i64 now, .int .i64 draw, .slice none 0 0, .slice none 0 0] 71)).cell 1
  have yy3 := (MB6.out.alloc (.cells #[.pointer (some ⟨rb, 0, none⟩), .int .i64 now, .int .i64 draw, .slice none 0 0, .slice none 0 0] 71)).cell 3
  simp only [List.getElem?_toArray, List.getElem?_cons_zero, List.getElem?_cons_succ] at yy1 yy3
  have kW : Below w6.heap.size w6 (w6.alloc (.cells #[.pointer (some ⟨rb, 0, none⟩), .int .i64 now, .int .i64 draw, .slice none 0 0, .slice none 0 0] 71)) := al (rf w6) _
  have WB7 := Blk.new w6 71 #[.pointer (some ⟨rb, 0, none⟩), .int .i64 now, .int .i64 draw, .slice none 0 0, .slice none 0 0]
  have B7 := Lib.hid (nx B6.out kW)
  have R7 := Lib.hid (R6.out.nx kW)
  have K37 := Lib.hid (nx K36.out kW)
  have hz6 := B6.out.size
  have W7 : Hid (IsWk (w6.alloc (.cells #[.pointer (some ⟨rb, 0, none⟩), .int .i64 now, .int .i64 draw, .slice none 0 0, .slice none 0 0] 71)) w.heap.size w6.heap.size rb now draw [] none 0 [] none 0) := ⟨WB7, hz6, World.ownsRow_nil _ _ _ _, World.ownsRow_nil _ _ _ _, by simp, by simp⟩
  have M7 := Lib.hid (HM.out.below B7.out hw0)
  have hz7 := B7.out.size
  have HKP := Lib.hid (keepsC _ B w.heap.size ((w1.drewN nq).heap.size) w3.heap.size w6.heap.size rb z now draw [] none 0 [] none 0 ⟨M.id, M.fl, [rqZ x], a2, Q2, A2, n2, m2⟩ AA ac L Dm T R7.out HAG.out W7.out (HK.out.nx B7.out) M7.out
    (fun w'' h1 h2 => I4.out w'' h1 (fun i a b => (h2 i a b).trans (K37.out.block i b))) K37.out.size (by omega) (by omega) (fun b h => .inl (by have := (HK.out.age.lt b h).2; omega)) (by show _ ++ keepL now [] a2 = T; rw [keepL_key E4.out]; exact HTT.out) HTP.out hTl hcap1 (u_key E4.out HU0.out) n0 n1 (by omega) hB0)
  have hf2 := HF2.out
  rw [hcode] at hf2
  clear hcode
  clear b6 kW WB7 x0 x1 x2 x3 x4 y0 y1 y2 y3 HOF hfb K35 K36 K37 I4 I5 MB5 MB6 DB5
  go_wp2_with fail
  refine HKP.out.mono ?_
  rintro e w8 ⟨rfl, AA8, ac8, L8, D8, Rd8, Wd8, Kd8, ht8, kt8, bl8⟩
  have qm : (g, q) ∈ z.qs := by rw [HQS.out]; simp
  have qc1 := (Rd8.q (g, q) qm).1.cell 1
  simp only [Qn.cs, List.getElem?_toArray, List.getElem?_cons_zero, List.getElem?_cons_succ] at qc1
  have HV := haveK w8 w6.heap.size rb B z.km AA8 ac8 L8 D8 q.name (by omega) now _ _ Wd8.b rfl rfl Rd8.b rfl Kd8
  obtain ⟨hne, err, ads, nm, fo, hchs⟩ := HCH.out L8 ht8
  obtain ⟨p8, hp8⟩ : ∃ p8, lookL L8 now q.name = some p8 := by
    cases h : lookL L8 now q.name with
    | none => exact absurd h hne
    | some p => exact ⟨p, rfl⟩
  have HV2 := HV.2
  rw [hp8] at HV2
  have HHV := Lib.hid HV2
  have R8 := Lib.hid Rd8
  have W8 := Lib.hid Wd8
  have K8 := Lib.hid Kd8
  have T8 := Lib.hid ht8
  have KT8 := Lib.hid kt8
  have M8 := Lib.hid (M7.out.below bl8 hB0)
  have BL8 := Lib.hid bl8
  have HCHS := Lib.hid hchs
  have hz8 := bl8.size
  clear HV HV2 Rd8 Wd8 Kd8 ht8 kt8 bl8 hchs hne hp8 qm HKP yy1 yy3
  unfold entP at HHV
  go_wp2_with fail
  refine HHV.out.mono ?_
  rintro e w9 ⟨rfl, b9⟩
  have B89 := Lib.hid b9
  have hz9 := b9.size
  have R9 := Lib.hid (R8.out.nx b9)
  have W9 := Lib.hid (W8.out.nx b9)
  have K9 := Lib.hid (K8.out.nx b9)
  have M9 := Lib.hid (M8.out.nx b9)
  have HG := Lib.hid (goesK w9 B w.heap.size w6.heap.size rb g { z with age := .slice AA8 L8.length ac8 } now draw [] none 0 [] none 0 AA8 ac8 L8 D8 q R9.out W9.out HQS.out K9.out M9.out f0 f1 (fun p hp h => HCN.out p.2.pl (by rw [← T8.out]; exact List.mem_map.2 ⟨p, hp, rfl⟩) h) (fun p hp => HAD.out p.2.pl (by rw [← T8.out]; exact List.mem_map.2 ⟨p, hp, rfl⟩)) HQN.out hns sv1 sv3 n0 n1 se0 se1 (by simp) (by simp) hB (by omega))
  clear b9 HHV qc1 M8 M9
  go_wp2_with fail
  refine HG.out.mono ?_
  rintro e w10 ⟨rfl, k1, k2, b10, hcase⟩
  rcases hcase with ⟨err2, ads2, nm2, fo2, A3, k3, FA3, fc3, QA3, qc3, hc2, Rz2, Wz2⟩ | ⟨nm2, fo2, _, _, _, _, hc2, _⟩
  rotate_left
  · exact absurd (congrArg Prod.fst (HCHS.out.symm.trans hc2)) (by simp)
  have y3 := Wz2.b.cell 3
  have y4 := Wz2.b.cell 4
  simp only [List.getElem?_toArray, List.getElem?_cons_zero, List.getElem?_cons_succ] at y3 y4
  have HRz := Lib.hid Rz2
  have HWz := Lib.hid Wz2
  have HK1 := Lib.hid k1
  have HK2 := Lib.hid k2
  have HB10 := Lib.hid b10
  have HC2 := Lib.hid hc2
  have hzd := b10.size
  clear HG k1 k2 b10 hc2 Rz2 Wz2
  go_wp2
  go_quiet (fail)
  go_wp2
  go_ret2
  have kk : ∀ nq, KeepT w.heap.size [68, 64, 66, 60, 74] w (w10.drewN nq) := fun nq =>
    ((((KeepT.of_below B7.out (Nat.le_refl _)).trans ((KT8.out.mono (by decide)).less hz7)).trans (KeepT.of_below B89.out (by omega))).trans (HK2.out.mono (by decide))).trans (KeepT.of_below (dn (rf w10) nq) (by omega))
  have kb := fun nq => ((((B7.out.mono hB).trans BL8.out).trans (B89.out.mono (by omega))).trans HB10.out).trans ((dn (rf w10) nq).mono (by omega))
  refine ⟨AA8, ac8, L8, D8, err2, ads2, nm2, fo2, A3, k3, QA3, qc3, FA3, fc3, rfl, T8.out, HC2.out, HRz.out.nx (dn (rf w10) _), (K9.out.keep HK1.out (by decide) (by decide) (by decide) (by decide)).nx (dn (rf w10) _), ?_, ?_, kk _, kb _⟩
  · have h := own_nx HWz.out.f (dn (rf w10) nq)
    simpa using h
  · have h := own_nx (HWz.out.fd ⟨q.first, err2, ads2, A3, k3⟩ (by simp)) (dn (rf w10) nq)
    exact h
end
section
open Go.RowKit Go.Maps

theorem own_other {w w' : World} {B size n : Nat} {e : TypeId} {v : Value} {xs : List Value} {row : Option Nat} (h : w.ownsRow B e size v n xs) (k : w.grownBy w' row) (hne : ∀ i, v.ownBlock = some i → row ≠ some i) : w'.ownsRow B e size v n xs := by
  refine ⟨h.1, ?_⟩
  rcases h.2 with h0 | ⟨g, cap, cur, rfl, hg, hh, hr⟩
  · exact .inl h0
  · exact .inr ⟨g, cap, cur, rfl, hg, (k.block g (Blk.lt hh) (fun e => hne g rfl e.symm)).trans hh, hr⟩
theorem bytes_keepT {w w' : World} {ts : List TypeId} {A : Option Addr} {l : List UInt8} (h : Bytes w A l) (hty : RowTy w A) (k : KeepT w.heap.size ts w w') (hs : w.heap.size ≤ w'.heap.size) (hn : 5 ∉ ts) : Bytes w' A l ∧ RowTy w' A := by
  have hb : ∀ ad, A = some ad → w'.heap[ad.block]? = w.heap[ad.block]? := fun ad e => by
    obtain ⟨cur, fz, hh⟩ := hty ad e
    rw [hh]
    exact k ad.block _ (Array.getElem?_eq_some_iff.1 hh).1 hh hn
  refine ⟨⟨h.1, fun h0 => ?_⟩, fun ad e => ?_⟩
  · obtain ⟨ad, h1, h2, h3⟩ := h.2 h0
    refine ⟨ad, h1, Nat.lt_of_lt_of_le h2 hs, fun j u hu => ?_⟩
    rw [← h3 j u hu]
    exact World.cell?_of_block (w := w) (by rw [block_of_add]; exact hb ad h1)
  · obtain ⟨cur, fz, hh⟩ := hty ad e
    exact ⟨cur, fz, (hb ad e).trans hh⟩
-- the message that grows
structure Fm (w ws : World) (B0 mb : Nat) (id fl : Int) (x : Rc) (Q : Option Addr) (n : Nat) (rs : List Rc) (A : Option Addr) (m : Nat) : Prop where
  b : Blk ws mb 43 #[.int .i64 id, .int .i64 fl, .slice Q 1 n, .slice A rs.length m]
  q : ws.ownsRow B0 48 5 (.slice Q 1 n) 1 x.cs
  a : ws.ownsRow B0 48 5 (.slice A rs.length m) rs.length (rs.flatMap Rc.cs)
  ne : ∀ i, (Value.slice Q 1 n).ownBlock = some i → (Value.slice A rs.length m).ownBlock ≠ some i
  by_ : ∀ r ∈ rs, ws.ownsRow B0 5 1 (.slice r.A r.da.length r.k) r.da.length (Lib.byteCells r.da)
  sz : ∀ r ∈ rs, r.da.length ≤ 3000 ∧ r.nm.size ≤ 3000
  lo : B0 ≤ mb
  be : Below B0 w ws
section
variable {w ws w1 w9 : World} {B0 mb : Nat} {id fl : Int} {x : Rc} {Q : Option Addr} {n : Nat} {rs : List Rc} {A A9 : Option Addr} {m m9 : Nat}
theorem Fm.nx (h : Fm w ws B0 mb id fl x Q n rs A m) (k : Below ws.heap.size ws w1) (hs : B0 ≤ ws.heap.size) : Fm w w1 B0 mb id fl x Q n rs A m :=
  ⟨h.b.nx k, own_nx h.q k, own_nx h.a k, h.ne, fun r hr => own_nx (h.by_ r hr) k, h.sz, h.lo, h.be.trans (k.mono hs)⟩
theorem Fm.grow (h : Fm w ws B0 mb id fl x Q n rs A m) (k : Below ws.heap.size ws w1) (hs : B0 ≤ ws.heap.size) (r : Rc) (hr : w1.ownsRow B0 5 1 (.slice r.A r.da.length r.k) r.da.length (Lib.byteCells r.da)) (hz : r.da.length ≤ 3000 ∧ r.nm.size ≤ 3000)
    (own9 : w9.ownsRow B0 48 5 (.slice A9 (rs.length + 1) m9) (rs.length + 1) (rs.flatMap Rc.cs ++ r.cs)) (gr : w1.grownBy w9 (Value.slice A rs.length m).ownBlock)
    (at9 : (Value.slice A9 (rs.length + 1) m9).ownBlock = (Value.slice A rs.length m).ownBlock ∨ (Value.slice A9 (rs.length + 1) m9).ownBlock = some w1.heap.size) (bel : Below B0 w1 w9) :
    Fm w (w9.setCell ⟨mb, 3, none⟩ (.slice A9 (rs.length + 1) m9)) B0 mb id fl x Q n (rs ++ [r]) A9 m9 := by
  have b1 := h.b.nx k
  have a1 := own_nx h.a k
  have b9 : Blk w9 mb 43 _ := b1.grown gr (fun e => own_blk_ne a1 b1 (by decide) e.symm)
  have k9 : KeepT w9.heap.size [43] w9 (w9.setCell ⟨mb, 3, none⟩ (.slice A9 (rs.length + 1) m9)) := KeepT.of_set b9 _ (.inr (by simp)) (Nat.le_refl _)
  have kr : KeepT w1.heap.size [48] w1 w9 := KeepT.of_row gr a1 (.inr (by simp)) (Nat.le_refl _)
  have hle : (rs ++ [r]).length = rs.length + 1 := by simp
  have hlq : ∀ i, (Value.slice Q 1 n).ownBlock = some i → i < ws.heap.size := fun i hi => (h.q.lt i hi).2
  refine ⟨?_, ?_, ?_, ?_, ?_, ?_, h.lo, ?_⟩
  · rw [hle]; exact b9.set_ 3 _
  · exact k9.own (own_other (own_nx h.q k) gr (fun i hi e => h.ne i hi e)) (by decide)
  · rw [hle, List.flatMap_append]
    have h2 := k9.own own9 (by decide)
    simpa using h2
  · intro i hi
    rw [hle]
    rcases at9 with e | e
    · rw [e]; exact h.ne i hi
    · rw [e]
      intro e2
      injection e2 with e2
      have := hlq i hi
      have := k.size
      omega
  · intro y hy
    rcases List.mem_append.1 hy with hy | hy
    · exact k9.own (kr.own (own_nx (h.by_ y hy) k) (by decide)) (by decide)
    · obtain rfl := List.mem_singleton.1 hy
      exact k9.own (kr.own hr (by decide)) (by decide)
  · intro y hy
    rcases List.mem_append.1 hy with hy | hy
    · exact h.sz y hy
    · obtain rfl := List.mem_singleton.1 hy
      exact hz
  · exact ((h.be.trans (k.mono hs)).trans bel).setCell h.lo _
theorem Fm.is (h : Fm w ws B0 mb id fl x Q n rs A m) (hl : rs.length ≤ 3000) (hx : x.nm.size ≤ 3000) (hd : x.da = []) : IsM ws ⟨id, fl, [x], rs, Q, A, n, m⟩ := by
  have hQ := rows_own (l := [x]) (f := Rc.cs) (fun _ => rfl) (by simpa using h.q) rfl
  have hA := rows_own (f := Rc.cs) (fun _ => rfl) h.a rfl
  refine ⟨hQ, hA, fun r hr => ?_, fun r hr => ⟨Bytes.own (h.by_ r hr), own_cap (h.by_ r hr), (h.sz r hr).1, (h.sz r hr).2⟩, by simp, hl⟩
  obtain rfl := List.mem_singleton.1 hr
  refine ⟨?_, ?_, ?_, hx⟩
  · rw [hd]; exact Bytes.nil _ _
  · rw [hd]; exact Nat.zero_le _
  · rw [hd]; exact Nat.zero_le _
theorem Fm.keep {ts : List TypeId} (h : Fm w ws B0 mb id fl x Q n rs A m) (k : KeepT ws.heap.size ts ws w1) (kb : Below B0 ws w1) (h1 : 43 ∉ ts) (h2 : 48 ∉ ts) (h3 : 5 ∉ ts) : Fm w w1 B0 mb id fl x Q n rs A m :=
  ⟨k.blk_ h.b h1, k.own h.q h2, k.own h.a h2, h.ne, fun r hr => k.own (h.by_ r hr) h3, h.sz, h.lo, h.be.trans kb⟩
theorem Fm.id_ (h : Fm w ws B0 mb id fl x Q n rs A m) (id2 : Int) : Fm w (ws.setCell ⟨mb, 0, none⟩ (.int .i64 id2)) B0 mb id2 fl x Q n rs A m := by
  have k : KeepT ws.heap.size [43] ws (ws.setCell ⟨mb, 0, none⟩ (.int .i64 id2)) := KeepT.of_set h.b _ (.inr (by simp)) (Nat.le_refl _)
  exact ⟨h.b.set_ 0 _, k.own h.q (by decide), k.own h.a (by decide), h.ne, fun r hr => k.own (h.by_ r hr) (by decide), h.sz, h.lo, h.be.setCell h.lo _⟩
theorem Fm.fl_ (h : Fm w ws B0 mb id fl x Q n rs A m) (fl2 : Int) : Fm w (ws.setCell ⟨mb, 1, none⟩ (.int .i64 fl2)) B0 mb id fl2 x Q n rs A m := by
  have k : KeepT ws.heap.size [43] ws (ws.setCell ⟨mb, 1, none⟩ (.int .i64 fl2)) := KeepT.of_set h.b _ (.inr (by simp)) (Nat.le_refl _)
  exact ⟨h.b.set_ 1 _, k.own h.q (by decide), k.own h.a (by decide), h.ne, fun r hr => k.own (h.by_ r hr) (by decide), h.sz, h.lo, h.be.setCell h.lo _⟩
theorem Fm.oth (h : Fm w ws B0 mb id fl x Q n rs A m) : ∃ qb, Q = some ⟨qb, 0, none⟩ ∧ B0 ≤ qb ∧ (∀ j u, x.cs[j]? = some u → ws.cell? ⟨qb, j, none⟩ = some u) ∧ ws.frozen? ⟨qb, 0, none⟩ = false ∧ ∀ s : ByteArray, Fm w (ws.setCell ⟨qb, 0, none⟩ (.string s)) B0 mb id fl { x with nm := s } Q n rs A m := by
  rcases h.q.2 with ⟨_, h0⟩ | ⟨qb, cap, cur, e, hg, hh, h1, h2, h3, h4⟩
  · omega
  · injection e with e1 e2 e3
    have hb : Blk ws qb 48 cur := hh
    have hlen : x.cs.length = 5 := rfl
    refine ⟨qb, e1, hg, fun j u hu => ?_, hb.frozen 0, fun s => ?_⟩
    · have hj : j < 5 := by rw [← hlen]; exact (List.getElem?_eq_some_iff.1 hu).1
      rw [hb.cell, ← hu, ← h4, List.getElem?_take_of_lt (by omega), Array.getElem?_toList]
    · have k : KeepT ws.heap.size [48] ws (ws.setCell ⟨qb, 0, none⟩ (.string s)) := KeepT.of_set hb _ (.inr (by simp)) (Nat.le_refl _)
      refine ⟨k.blk_ h.b (by decide), ⟨rfl, .inr ⟨qb, cap, cur.setIfInBounds 0 (.string s), ?_, hg, hb.set_ 0 _, h1, h2, by rw [Array.size_setIfInBounds]; exact h3, ?_⟩⟩, own_other h.a (only_set ws qb 0 (.string s)) (fun i hi e => ?_), h.ne, fun r hr => k.own (h.by_ r hr) (by decide), h.sz, h.lo, h.be.setCell hg _⟩
      · rw [e1, e3]
      · rw [Array.toList_setIfInBounds, List.take_set, h4]
        rfl
      · injection e with e
        rw [← e] at hi
        exact h.ne qb (by rw [e1]; rfl) hi
end
theorem encM_len3 {M : Ms} {w : World} (hz : wrongI M = 0) (h : IsM w M) : (encM M).length ≤ 500000 ∧ 0 < (encM M).length := by
  have ok := mok_of hz
  have h1 := flat_len (l := M.q) (f := qB) (fun r hr => Nat.le_trans (qB_len (ok.q r hr)) (by omega))
  have h2 := flat_len (l := M.a) (f := aB) (fun r hr => aB_len (ok.a r hr) (h.ar r hr).2.2.1)
  have h3 := ok.ql
  have h4 := ok.al
  have h5 : ((h6 M).flatMap fun v => beB v.toNat 2).length = 12 := by rw [flat2_len]; rfl
  unfold encM
  rw [List.length_append, List.length_append, h5]
  omega
def EncD (w : World) (M : Ms) (e : Ending) (w' : World) : Prop :=
  ∃ (ga c : Nat), e = .returned (.tuple #[.slice (some ⟨ga, 0, none⟩) (encM M).length c, .int .i64 0]) ∧ Bytes w' (some ⟨ga, 0, none⟩) (encM M) ∧ RowTy w' (some ⟨ga, 0, none⟩) ∧ (encM M).length ≤ 500000 ∧ (encM M).length ≤ c ∧ Below w.heap.size w w'
theorem encD (w : World) (M : Ms) (hI : IsM w M) (hz : wrongI M = 0) (hm : MaxL w) : Calls Tryd.prog 15 #[.agg #[.int .i64 M.id, .int .i64 M.fl, .slice M.Q M.q.length M.n, .slice M.A M.a.length M.m]] w (EncD w M) := by
  refine (encNC w M hI hm).mono ?_
  rintro e w' (⟨_, A, c, rfl, own, b⟩ | ⟨h, _⟩)
  · obtain ⟨l1, l2⟩ := encM_len3 hz hI
    obtain ⟨ga, cap, hv, _, _, hcap, _, cur, hcur, _, _⟩ := own_form own l2
    injection hv with hv1 _ hv3
    subst hv1 hv3
    exact ⟨ga, c, rfl, Bytes.own own, fun ad e => by injection e with e; subst e; exact ⟨cur, (0, 0), hcur⟩, l1, hcap, b⟩
  · exact absurd hz h
-- records that may be answers
structure GoodA (r : Rc) : Prop where
  c : r.c = 1
  u : 0 ≤ r.u ∧ r.u ≤ 2147483647
  nm : isN r.nm.data.toList = true
  t : (r.t = 1 ∧ r.da.length = 4) ∨ (r.t = 5 ∧ isN r.da = true ∧ r.da.length ≤ 3000)
theorem any_no2 {l : List Rc} {p : Rc → Bool} (h : ∀ r ∈ l, p r = false) : l.any p = false := by
  rw [List.any_eq_false]
  intro r hr
  rw [h r hr]; simp
theorem good_wrong {id fl : Int} {x : Rc} {rs : List Rc} {Q A : Option Addr} {n m : Nat} (i0 : 0 ≤ id) (i1 : id ≤ 65535) (f0 : 0 ≤ fl) (f1 : fl ≤ 65535) (ht : x.t = 1) (hc : x.c = 1) (hs : isN x.nm.data.toList = true) (h : ∀ r ∈ rs, GoodA r) (hl : rs.length ≤ 64) : wrongI ⟨id, fl, [x], rs, Q, A, n, m⟩ = 0 := by
  have g1 : goodV id = true := by unfold goodV; simp [i0, i1]
  have g2 : goodV fl = true := by unfold goodV; simp [f0, f1]
  have b0 : badN [x] true = false := by unfold badN badR; simp [ht, hc]
  have b1 : badN rs false = false := any_no2 fun r hr => by
    have h := h r hr
    have ht2 : 0 ≤ r.t ∧ r.t ≤ 65535 := by rcases h.t with ⟨ht, _⟩ | ⟨ht, _⟩ <;> omega
    have hc2 := h.c
    have hu := h.u
    unfold badR
    simp only [Bool.or_eq_false_iff, decide_eq_false_iff_not, Bool.and_eq_false_iff]
    exact ⟨⟨⟨⟨by omega, by omega⟩, by omega⟩, by omega⟩, .inr ⟨by omega, by omega⟩⟩
  have b2 : (rs.any fun r => nmBad r false) = false := any_no2 fun r hr => by
    have h := h r hr
    unfold nmBad
    rcases h.t with ⟨ht, _⟩ | ⟨ht, hn, _⟩
    · rw [h.nm, ht]; rfl
    · rw [h.nm, hn]; simp
  have b3 : (rs.any fun r => decide (r.t = 1) && decide (r.da.length ≠ 4)) = false := any_no2 fun r hr => by
    rcases (h r hr).t with ⟨_, hd⟩ | ⟨ht, _⟩
    · rw [hd]; simp
    · rw [ht]; simp
  have b4 : (rs.any fun r => decide (65535 < r.da.length)) = false := any_no2 fun r hr => by
    have : r.da.length ≤ 3000 := by rcases (h r hr).t with ⟨_, hd⟩ | ⟨_, _, hd⟩ <;> omega
    rw [decide_eq_false_iff_not]; omega
  have bq : ([x].any fun r => nmBad r true) = false := by simp [nmBad, hs]
  have hl2 : ¬ 64 < rs.length := by omega
  unfold wrongI
  simp only [g1, g2, b0, b1, b2, b3, b4, bq]
  simp [hl2]
-- an id with its lowest bit turned
theorem xor1 (a : Nat) (ha : a < 65536) : bits .xor .i64 (a : Int) 1 = ((a ^^^ 1 : Nat) : Int) ∧ a ^^^ 1 ≠ a ∧ a ^^^ 1 < 65536 := by
  have hx : a ^^^ 1 < 2 ^ 16 := Nat.xor_lt_two_pow (by omega) (by omega)
  refine ⟨?_, fun h => ?_, by omega⟩
  · have h1 : (BitVec.ofInt 64 (a : Int)).toNat = a := by
      rw [BitVec.ofInt_natCast, BitVec.toNat_ofNat]; exact Nat.mod_eq_of_lt (by omega)
    have h2 : (BitVec.ofInt 64 (1 : Int)).toNat = 1 := by decide
    show IntKind.i64.wrap ((BitVec.ofInt 64 (a : Int) ^^^ BitVec.ofInt 64 (1 : Int)).toNat : Int) = _
    rw [BitVec.toNat_xor, h1, h2, IntKind.wrap_i64]
    omega
  · have h1 : a ^^^ (a ^^^ 1) = a ^^^ a := by rw [h]
    rw [← Nat.xor_assoc, Nat.xor_self, Nat.zero_xor] at h1
    omega
-- four bytes of an address
def b4 (a : Int) : List UInt8 := [UInt8.ofNat (a / 16777216 % 256).toNat, UInt8.ofNat (a / 65536 % 256).toNat, UInt8.ofNat (a / 256 % 256).toNat, UInt8.ofNat (a % 256).toNat]
theorem b4_cells (a : Int) : Lib.byteCells (b4 a) = [.int .u8 (a / 16777216 % 256), .int .u8 (a / 65536 % 256), .int .u8 (a / 256 % 256), .int .u8 (a % 256)] := by
  have e : ∀ x : Int, 0 ≤ x → x < 256 → ((UInt8.ofNat x.toNat).toNat : Int) = x := fun x h0 h1 => by
    simp [UInt8.toNat_ofNat']; omega
  unfold b4
  simp only [Lib.byteCells, List.map_cons, List.map_nil]
  rw [e _ (by omega) (by omega), e _ (by omega) (by omega), e _ (by omega) (by omega), e _ (by omega) (by omega)]
theorem addrN_b4 (a : Int) (h0 : 0 ≤ a) (h1 : a < 4294967296) : ((addrN (b4 a) : Nat) : Int) = a := by
  have e : ∀ x : Int, 0 ≤ x → x < 256 → (UInt8.ofNat x.toNat).toNat = x.toNat := fun x h0 h1 => by
    simp [UInt8.toNat_ofNat']; omega
  unfold addrN b4
  simp only [List.foldl_cons, List.foldl_nil]
  rw [e _ (by omega) (by omega), e _ (by omega) (by omega), e _ (by omega) (by omega), e _ (by omega) (by omega)]
  omega
-- answers of one name: addresses
def recT (s : ByteArray) (u : Int) (a : Int) : Rc := ⟨s, 1, 1, u, b4 a, none, 0⟩
theorem keep_done {now : Int} {s : ByteArray} {u : Int} {done : List ByteArray} (hd : inD done (lowS s) = true) : ∀ l : List Int, keepL now done (l.map (recT s u)) = [] := by
  intro l
  induction l with
  | nil => rfl
  | cons a l ih =>
    rw [List.map_cons]
    unfold keepL
    rw [if_neg (by simp [recT]), if_neg (by simp [recT]), if_neg (by simp [recT, hd])]
    exact ih
theorem ads_one {s : ByteArray} {u : Int} : ∀ l : List Int, (∀ a ∈ l, 0 ≤ a ∧ a < 4294967296) → adsOf s (l.map (recT s u)) = l := by
  intro l h
  have hf : (l.map (recT s u)).filter (ofA s) = l.map (recT s u) := by
    rw [List.filter_eq_self]
    intro r hr
    obtain ⟨a, _, rfl⟩ := List.mem_map.1 hr
    simp [ofA, recT]
  unfold adsOf
  rw [hf, List.map_map]
  have : (l.map fun a => a) = l := by simp
  conv => rhs; rw [← this]
  apply List.map_congr_left
  intro a ha
  exact addrN_b4 a (h a ha).1 (h a ha).2
theorem least_one {s : ByteArray} {u : Int} : ∀ l : List Int, leastOf s u (l.map (recT s u)) = u := by
  intro l
  have hf : (l.map (recT s u)).filter (ofA s) = l.map (recT s u) := by
    rw [List.filter_eq_self]
    intro r hr
    obtain ⟨a, _, rfl⟩ := List.mem_map.1 hr
    simp [ofA, recT]
  unfold leastOf
  rw [hf]
  induction l with
  | nil => rfl
  | cons a l ih =>
    rw [List.map_cons, List.foldl_cons]
    have : (if (recT s u a).u < u then (recT s u a).u else u) = u := by simp [recT]
    rw [this]
    apply ih
    rw [List.filter_eq_self]
    intro r hr
    obtain ⟨a, _, rfl⟩ := List.mem_map.1 hr
    simp [ofA, recT]
theorem keep_one {now : Int} {s : ByteArray} {u : Int} (l : List Int) (hl : 1 ≤ l.length) (h : ∀ a ∈ l, 0 ≤ a ∧ a < 4294967296) : keepL now [] (l.map (recT s u)) = [⟨lowS s, ⟨#[]⟩, false, l, untilV now u⟩] := by
  cases l with
  | nil => simp at hl
  | cons a l =>
    have e1 := ads_one (s := s) (u := u) (a :: l) h
    have e2 := least_one (s := s) (u := u) (a :: l)
    rw [List.map_cons] at e1 e2 ⊢
    unfold keepL
    rw [if_neg (by simp [recT]), if_neg (by simp [recT]), if_pos (by simp [recT, inD])]
    show Pe.mk (lowS s) ⟨#[]⟩ false (adsOf s (recT s u a :: l.map (recT s u))) (untilV now (leastOf s u (recT s u a :: l.map (recT s u)))) :: keepL now [lowS s] (l.map (recT s u)) = _
    rw [e1, e2, keep_done (by simp [inD])]
theorem one_of {L : List (Nat × En)} {e : Pe} (h : (L.map fun p => p.2.pl) = [e]) : ∃ p, L = [p] ∧ p.2.key = e.key ∧ p.2.leads = e.leads ∧ p.2.ad = e.ad ∧ p.2.behind = e.behind := by
  match L, h with
  | [p], h =>
    simp only [List.map_cons, List.map_nil, List.cons.injEq, and_true] at h
    subst h
    exact ⟨p, rfl, rfl, rfl, rfl, rfl⟩
end
end Go.Proofs.YtpfkmmmlocmakaaDoor
