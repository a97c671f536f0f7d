/-
  Resolve: a resolver and a call's work in memory; key, slices.Clone, a new resolver, have, slices.Contains, stores into a question.
-/
import Derived.Test.YtpfkmmmlocmakaaDoorMem
import Derived.Test.YtpfkmmmlocmakaaDoorOctW
import Derived.Test.YtpfkmmmlocmakaaDoorNm
import Derived.Laws.IdiomStrings
import Derived.Maps.OwnOps
import Derived.Maps.OwnSet
import Derived.StringKeys
import Derived.Test.YtpfkmmmlocmakaaDoorLex
import Derived.LaidEqlPtr
set_option linter.unusedVariables false
namespace Go.Proofs.YtpfkmmmlocmakaaDoor
section
open Go.RowKit

-- which blocks a step may touch: by their types; a map is named by its type
def tyIn (ts : List TypeId) : Obj → Prop
  | .cells _ t _ => t ∈ ts
  | .map _ _ => 60 ∈ ts
  | _ => False
-- the blocks below n are as they were, but for those of the types ts
def KeepT (n : Nat) (ts : List TypeId) (w w' : World) : Prop := ∀ i o, i < n → w.heap[i]? = some o → ¬ tyIn ts o → w'.heap[i]? = some o
section
variable {w w' w2 : World} {n m g B : Nat} {ts us : List TypeId} {t e : TypeId} {cs : Array Value}
theorem tyIn_mono {o : Obj} (h : ∀ t ∈ ts, t ∈ us) (k : tyIn ts o) : tyIn us o := by
  cases o <;> simp only [tyIn] at k ⊢
  all_goals exact h _ k
theorem KeepT.refl : KeepT n ts w w := fun _ _ _ h _ => h
theorem KeepT.mono (h : KeepT n ts w w') (k : ∀ t ∈ ts, t ∈ us) : KeepT n us w w' := fun i o hi ho hn => h i o hi ho fun hh => hn (tyIn_mono k hh)
theorem KeepT.less (h : KeepT n ts w w') (k : m ≤ n) : KeepT m ts w w' := fun i o hi ho hn => h i o (by omega) ho hn
theorem KeepT.trans (h : KeepT n ts w w') (k : KeepT n ts w' w2) : KeepT n ts w w2 := fun i o hi ho hn => k i o hi (h i o hi ho hn) hn
theorem KeepT.trans_ (h : KeepT w.heap.size ts w w') (k : KeepT w'.heap.size ts w' w2) (hs : w.heap.size ≤ w'.heap.size) : KeepT w.heap.size ts w w2 := h.trans (k.less hs)
theorem KeepT.of_below (h : Below B w w') (hB : n ≤ B) : KeepT n ts w w' := fun i o hi ho _ => by rw [h.block i (by omega)]; exact ho
theorem KeepT.of_grown (h : w.grownBy w' (some g)) (hg : n ≤ g ∨ ∃ cs fr, w.heap[g]? = some (.cells cs t fr) ∧ t ∈ ts) (hs : n ≤ w.heap.size) : KeepT n ts w w' := fun i o hi ho hn => by
  have hne : i ≠ g := by
    rintro rfl
    rcases hg with hg | ⟨cs, fr, hg, ht⟩
    · omega
    · rw [hg] at ho; injection ho with ho; subst ho; exact hn ht
  rw [h.block i (by omega) (by intro e; injection e with e; exact hne e)]; exact ho
theorem KeepT.of_none (h : w.grownBy w' none) (hs : n ≤ w.heap.size) : KeepT n ts w w' := fun i o hi ho hn => by
  rw [h.block i (by omega) (by simp)]; exact ho
theorem KeepT.of_set {i : Nat} (hb : Blk w g t cs) (v : Value) (hg : n ≤ g ∨ t ∈ ts) (hs : n ≤ w.heap.size) : KeepT n ts w (w.setCell ⟨g, i, none⟩ v) := fun j o hj ho hn => by
  have hne : j ≠ g := by
    rintro rfl
    rcases hg with hg | ht
    · omega
    · unfold Blk at hb; rw [hb] at ho; injection ho with ho; subst ho; exact hn ht
  exact (Below.heap_setCell w ⟨g, i, none⟩ v j hne).trans ho
theorem KeepT.of_row {size k c : Nat} {A : Option Addr} {xs : List Value} (h : w.grownBy w' (Value.slice A k c).ownBlock) (own : w.ownsRow B e size (.slice A k c) k xs) (hg : n ≤ B ∨ e ∈ ts) (hs : n ≤ w.heap.size) : KeepT n ts w w' := by
  rcases own.2 with ⟨e2, h0⟩ | ⟨g, cap, cur, e2, hB, hh, _⟩
  · rw [e2] at h
    exact KeepT.of_none h hs
  · rw [e2] at h
    refine KeepT.of_grown (t := e) (g := g) h ?_ hs
    rcases hg with hg | hg
    · exact .inl (by omega)
    · exact .inr ⟨_, _, hh, hg⟩
theorem KeepT.blk (h : KeepT n ts w w') (hg : Blk w g t cs) (hn : t ∉ ts) (hlt : g < n) : Blk w' g t cs := h g _ hlt hg hn
theorem KeepT.blk_ (h : KeepT w.heap.size ts w w') (hg : Blk w g t cs) (hn : t ∉ ts) : Blk w' g t cs := h g _ hg.lt hg hn
theorem KeepT.own {size k : Nat} {v : Value} {xs : List Value} (h : KeepT w.heap.size ts w w') (own : w.ownsRow B e size v k xs) (hn : e ∉ ts) : w'.ownsRow B e size v k xs := by
  refine ⟨own.1, ?_⟩
  rcases own.2 with h0 | ⟨g, cap, cur, rfl, hg, hh, hr⟩
  · exact .inl h0
  · exact .inr ⟨g, cap, cur, rfl, hg, h g _ (Blk.lt hh) hh hn, hr⟩
theorem KeepT.bytes {A : Option Addr} {c : Nat} {l : List UInt8} (h : KeepT w.heap.size ts w w') (own : w.ownsRow B 5 1 (.slice A l.length c) l.length (Lib.byteCells l)) (hn : 5 ∉ ts) : Bytes w' A l := Bytes.own (h.own own hn)
end

-- a question
structure Qn where
  (first name : ByteArray)
  (follows id server asked next : Int)
def Qn.cs (q : Qn) : Array Value := #[.string q.first, .string q.name, .int .i64 q.follows, .int .i64 q.id, .int .i64 q.server, .int .i64 q.asked, .int .i64 q.next]
-- a datagram that is sent, and what is found
structure Dg where
  (port to : Int)
  da : List UInt8
  A : Option Addr
  k : Nat
def Dg.cs (d : Dg) : List Value := [.int .u32 0, .int .i64 d.port, .int .u32 d.to, .int .i64 53, .slice d.A d.da.length d.k]
structure Fd where
  nm : ByteArray
  err : Int
  ad : List Int
  A : Option Addr
  k : Nat
def Fd.cs (f : Fd) : List Value := [.string f.nm, .int .i64 f.err, .slice f.A f.ad.length f.k]
-- a resolver
structure Rz where
  sv : List Int
  SA : Option Addr
  sc : Nat
  (port sent : Int)
  qs : List (Nat × Qn)
  QA : Option Addr
  qc : Nat
  km : Nat
  age : Value
def ptr (g : Nat) : Value := .pointer (some ⟨g, 0, none⟩)
def Rz.cs (z : Rz) : Array Value := #[.slice z.SA z.sv.length z.sc, .int .i64 z.port, .int .i64 z.sent, .slice z.QA z.qs.length z.qc, .map (some z.km), z.age]
structure IsRv (w : World) (B rb : Nat) (z : Rz) : Prop where
  b : Blk w rb 64 z.cs
  lo : B ≤ rb
  sv : w.ownsRow B 33 1 (.slice z.SA z.sv.length z.sc) z.sv.length (z.sv.map (Value.int .u32))
  qs : w.ownsRow B 66 1 (.slice z.QA z.qs.length z.qc) z.qs.length (z.qs.map fun p => ptr p.1)
  q : ∀ p ∈ z.qs, Blk w p.1 68 p.2.cs ∧ B ≤ p.1
  nd : (z.qs.map (·.1)).Nodup
-- a call's work; N: where the call's own memory begins
structure IsWk (w : World) (N wb rb : Nat) (now draw : Int) (fs : List Fd) (FA : Option Addr) (fc : Nat) (ds : List Dg) (DA : Option Addr) (dc : Nat) : Prop where
  b : Blk w wb 71 #[ptr rb, .int .i64 now, .int .i64 draw, .slice FA fs.length fc, .slice DA ds.length dc]
  lo : N ≤ wb
  f : w.ownsRow N 39 3 (.slice FA fs.length fc) fs.length (fs.flatMap Fd.cs)
  d : w.ownsRow N 36 5 (.slice DA ds.length dc) ds.length (ds.flatMap Dg.cs)
  fd : ∀ x ∈ fs, w.ownsRow N 33 1 (.slice x.A x.ad.length x.k) x.ad.length (x.ad.map (Value.int .u32))
  dd : ∀ x ∈ ds, w.ownsRow N 5 1 (.slice x.A x.da.length x.k) x.da.length (Lib.byteCells x.da)
section
variable {w w' : World} {B N rb wb : Nat} {z : Rz} {now draw : Int} {fs : List Fd} {FA DA : Option Addr} {fc dc : Nat} {ds : List Dg} {ts : List TypeId}
theorem IsRv.keep (h : IsRv w B rb z) (k : KeepT w.heap.size ts w w') (h1 : 64 ∉ ts) (h2 : 33 ∉ ts) (h3 : 66 ∉ ts) (h4 : 68 ∉ ts) : IsRv w' B rb z :=
  ⟨k.blk_ h.b h1, h.lo, k.own h.sv h2, k.own h.qs h3, fun p hp => ⟨k.blk_ (h.q p hp).1 h4, (h.q p hp).2⟩, h.nd⟩
theorem IsRv.nx (h : IsRv w B rb z) (k : Below w.heap.size w w') : IsRv w' B rb z := h.keep (KeepT.of_below (ts := []) k (Nat.le_refl _)) (by simp) (by simp) (by simp) (by simp)
theorem IsWk.keep (h : IsWk w N wb rb now draw fs FA fc ds DA dc) (k : KeepT w.heap.size ts w w') (h1 : 71 ∉ ts) (h2 : 39 ∉ ts) (h3 : 36 ∉ ts) (h4 : 33 ∉ ts) (h5 : 5 ∉ ts) : IsWk w' N wb rb now draw fs FA fc ds DA dc :=
  ⟨k.blk_ h.b h1, h.lo, k.own h.f h2, k.own h.d h3, fun x hx => k.own (h.fd x hx) h4, fun x hx => k.own (h.dd x hx) h5⟩
theorem IsWk.nx (h : IsWk w N wb rb now draw fs FA fc ds DA dc) (k : Below w.heap.size w w') : IsWk w' N wb rb now draw fs FA fc ds DA dc := h.keep (KeepT.of_below (ts := []) k (Nat.le_refl _)) (by simp) (by simp) (by simp) (by simp) (by simp)
end
end
section
open Go.RowKit

-- a block whose frozen cells lie behind its row
def BlkF (w : World) (g : Nat) (t : TypeId) (cs : Array Value) (n : Nat) : Prop := w.heap[g]? = some (.cells cs t (n, n + 1))
theorem BlkF.cell {w : World} {g : Nat} {t : TypeId} {cs : Array Value} {n : Nat} (h : BlkF w g t cs n) (i : Nat) : w.cell? ⟨g, i, none⟩ = cs[i]? := cell_of_row w g i cs t (n, n + 1) h
theorem BlkF.frozen {w : World} {g : Nat} {t : TypeId} {cs : Array Value} {n : Nat} (h : BlkF w g t cs n) (i : Nat) (hi : i < n) : w.frozen? ⟨g, i, none⟩ = false := by
  unfold BlkF at h
  simp [World.frozen?, h]; omega
theorem BlkF.set_ {w : World} {g : Nat} {t : TypeId} {cs : Array Value} {n : Nat} (h : BlkF w g t cs n) (i : Nat) (u : Value) : BlkF (w.setCell ⟨g, i, none⟩ u) g t (cs.setIfInBounds i u) n := by
  unfold BlkF at h ⊢
  simp [World.setCell, Array.getElem?_modify, h]
set_option maxHeartbeats 800000 in
theorem keyC (a : ByteArray) (w : World) (ha : a.size ≤ 1099511627776) :
    Calls Tryd.prog 60 #[.string a] w fun e w' => ∃ s : ByteArray, e = .returned (.string s) ∧ s.data.toList = (a.data.toList.map fun c => UInt8.ofNat (lowN c.toNat)) ∧ Below w.heap.size w w' := by
  have hconv := run_bytes_of_string (P := Tryd.prog) w 9 34 5 a Tryd.underlying9 Tryd.underlying34 Tryd.underlying5
  have hge := grownCap_ge w a.size 0 5
  generalize grownCap w a.size 0 5 = cp at hconv hge
  go_enter Tryd.func60, Tryd.ntmps60
  go_wp2
  have hB : BlkF (w.drew.alloc (.cells (bytesRow a cp) 5 ((bytesRow a cp).size, (bytesRow a cp).size + 1))) w.heap.size 5 (bytesRow a cp) (bytesRow a cp).size := heap_alloc_new w.drew _
  have hsz : (bytesRow a cp).size = cp := by simp [bytesRow]; show a.size + (cp - a.size) = cp; omega
  have h0 : ∀ j, (h : j < a.size) → (bytesRow a cp)[j]? = some (.int .u8 a[j].toNat) := by
    intro j h
    unfold bytesRow
    rw [Array.getElem?_append_left (by simpa using h)]
    simp [h]
    rfl
  have bel : Below w.heap.size w (w.drew.alloc (.cells (bytesRow a cp) 5 ((bytesRow a cp).size, (bytesRow a cp).size + 1))) := al (rf w).drew _
  rw [hsz] at hB bel
  clear hconv
  rw [hsz]
  replace hB : BlkF (w.alloc (.cells (bytesRow a cp) 5 (cp, cp + 1))).drew w.heap.size 5 (bytesRow a cp) cp := hB
  replace bel : Below w.heap.size w (w.alloc (.cells (bytesRow a cp) 5 (cp, cp + 1))).drew := bel
  generalize (w.alloc (.cells (bytesRow a cp) 5 (cp, cp + 1))).drew = W at hB bel ⊢
  have H0 := Lib.hid h0
  have HS := Lib.hid hsz
  clear h0 hsz
  go_loopw [10] (fun i wr => ∃ (k : Nat) (cur : Array Value), k ≤ a.size ∧ i = .int .i64 k ∧ BlkF wr w.heap.size 5 cur cp ∧ Hid (∀ j, (h : j < a.size) → cur[j]? = some (.int .u8 ((if j < k then lowN a[j].toNat else a[j].toNat : Nat) : Int))) ∧ Below w.heap.size w wr) (fun i _ => a.size - (intOf i).toNat)
  case atStart => exact ⟨0, bytesRow a cp, by omega, rfl, hB, Lib.hid fun j h => by rw [H0.out j h, if_neg (by omega)], bel⟩
  case round =>
    obtain ⟨k, cur, hk, rfl, BK, HK, belK⟩ := hrel
    clear hB bel
    by_cases hlt : k < a.size
    · have hc := BK.cell k
      rw [HK.out k hlt, if_neg (by omega)] at hc
      have hf := BK.frozen k (by omega)
      have k0 : (0 : Int) ≤ k := by omega
      have k1 : (k : Int) < a.size := by omega
      have b1 := a[k].toNat_lt
      generalize hx : a[k].toNat = x at hc b1
      have HX := Lib.hid hx; clear hx
      have next : ∀ v : Nat, v = lowN x → Hid (∀ j, (h : j < a.size) → (cur.setIfInBounds k (.int .u8 (v : Nat)))[j]? = some (.int .u8 ((if j < k + 1 then lowN a[j].toNat else a[j].toNat : Nat) : Int))) := fun v hv j h => by
        have hcs : k < cur.size := by
          have := HK.out k hlt
          exact (Array.getElem?_eq_some_iff.1 this).1
        by_cases hj : j = k
        · subst hj
          rw [Array.getElem?_setIfInBounds_self_of_lt hcs, if_pos (by omega), HX.out, hv]
        · rw [Array.getElem?_setIfInBounds_ne (by omega), HK.out j h]
          by_cases hj2 : j < k
          · rw [if_pos hj2, if_pos (by omega)]
          · rw [if_neg hj2, if_neg (by omega)]
      have NEXT := Lib.hid next; clear next
      have same : lowN x = x → Hid (∀ j, (h : j < a.size) → cur[j]? = some (.int .u8 ((if j < k + 1 then lowN a[j].toNat else a[j].toNat : Nat) : Int))) := fun hv j h => by
        rw [HK.out j h]
        by_cases hj : j = k
        · subst hj
          rw [if_neg (by omega), if_pos (by omega), HX.out, hv]
        · by_cases hj2 : j < k
          · rw [if_pos hj2, if_pos (by omega)]
          · rw [if_neg hj2, if_neg (by omega)]
      have SAME := Lib.hid same; clear same
      by_cases h65 : 65 ≤ x
      · have i1 : (65 : Int) ≤ x := by omega
        by_cases h90 : x ≤ 90
        · have i2 : (x : Int) ≤ 90 := by omega
          have hl : Hid (lowN x = x + 32) := if_pos ⟨h65, h90⟩
          clear h65 h90
          go_wp2
          go_roundw
          case rel => exact ⟨k + 1, _, by omega, by go_num, BK.set_ k _, by have h := NEXT.out (x + 32) hl.out.symm; rw [show ((x + 32 : Nat) : Int) = (x : Int) + 97 - 65 by omega] at h; exact h, belK.setCell (Nat.le_refl _) _⟩
          case measure => simp [intOf]; omega
        · have i2 : ¬ (x : Int) ≤ 90 := by omega
          have hl : Hid (lowN x = x) := if_neg (by omega)
          clear h65 h90
          go_wp2
          go_roundw
          case rel => exact ⟨k + 1, cur, by omega, by go_num, BK, SAME.out hl.out, belK⟩
          case measure => simp [intOf]; omega
      · have i1 : ¬ (65 : Int) ≤ x := by omega
        have hl : Hid (lowN x = x) := if_neg (by omega)
        clear h65
        go_wp2
        go_roundw
        case rel => exact ⟨k + 1, cur, by omega, by go_num, BK, SAME.out hl.out, belK⟩
        case measure => simp [intOf]; omega
    · have hl0 : (a.data.toList.map fun c => UInt8.ofNat (lowN c.toNat)).length = a.size := by simp
      have hcv := run_convert_bytes_back (P := Tryd.prog) wr 34 9 5 ⟨w.heap.size, 0, none⟩ cp (a.data.toList.map fun c => UInt8.ofNat (lowN c.toNat)) Tryd.underlying34 Tryd.underlying5 Tryd.underlying9 (fun j hj => by
        have hj' : j < a.size := by rw [hl0] at hj; exact hj
        have := lowN_le a[j].toNat (by have := a[j].toNat_lt; omega)
        rw [Addr.add_mid, BK.cell, Nat.zero_add, HK.out j hj', if_pos (by omega)]
        simp [UInt8.toNat_ofNat']
        have e : lowN a.data[j].toNat ≤ 255 := this
        have e2 : lowN a[j].toNat = lowN a.data[j].toNat := rfl
        rw [e2]; omega)
      rw [hl0] at hcv
      generalize hbs : (a.data.toList.map fun c => UInt8.ofNat (lowN c.toNat)).toArray = bs at hcv
      have HBS := Lib.hid hbs
      clear hl0 hbs
      go_wp2
      go_ret
      exact ⟨_, rfl, by rw [← HBS.out], belK⟩
end
section
open Go.RowKit

theorem one_all {α : Type} {f : α → Value} (l : List α) (h : ∀ x, (f x).oneCell' = true) : ∀ u ∈ l.map f, u.oneCell' = true := fun u hu => by
  obtain ⟨x, _, rfl⟩ := List.mem_map.1 hu
  exact h x
theorem Reads.own_ {w : World} {base size : Nat} {e : TypeId} {A : Option Addr} {n c : Nat} {xs : List Value} (h : w.ownsRow base e size (.slice A n c) n xs) : Reads w w.heap.size size A n xs := Reads.of_own h
theorem stAd : SliceTy Tryd.prog 22 33 1 4 (.int .u32 0) := ⟨Tryd.underlying22, by kernel_rfl, rfl, by omega⟩
set_option maxRecDepth 100000 in
set_option maxHeartbeats 400000 in
theorem cloneAd (A : Option Addr) (n c : Nat) (xs : List Value) (w : World) (hr : Reads w w.heap.size 1 A n xs) (h1 : ∀ u ∈ xs, u.oneCell' = true) (hn : n ≤ 1000000) (h0 : A = none → n = 0) :
    Calls Tryd.prog 18 #[.slice A n c] w fun e w' => ∃ A' c', e = .returned (.slice A' n c') ∧ w'.ownsRow w.heap.size 33 1 (.slice A' n c') n xs ∧ Below w.heap.size w w' := by
  have Q : ∀ (w : World) (a : Option Addr) (n c : Nat), (binOp .eql 22 (.slice a n c) (.slice none 0 0)).run Tryd.prog w = .ok (.bool a.isNone) w := fun w a n c => Lib.run_eql_slice_nil w _ _ a n c 0 0 Tryd.underlying22
  have H1 := Lib.hid h1
  have HR := Lib.hid hr
  cases A with
  | none =>
    obtain rfl := h0 rfl
    have hx : xs = [] := List.eq_nil_of_length_eq_zero (by simpa using hr.1)
    subst hx
    clear h1 hr
    go_enter Tryd.func18, Tryd.ntmps18
    go_wp2
    go_ret
    exact ⟨none, 0, rfl, World.ownsRow_nil _ _ _ _, rf w⟩
  | some ad =>
    have OL : Hid ((w.alloc (.cells #[] 33)).ownsRow w.heap.size 33 1 (.slice (some ⟨w.heap.size, 0, none⟩) 0 0) 0 []) := own_lit w #[] 0 rfl (Nat.le_refl _) (by unfold maxLen; omega) rfl
    have RA := Lib.hid (Reads.more (Reads.alloc hr (Nat.le_refl _) (.cells #[] 33)) (show w.heap.size ≤ (w.alloc (.cells #[] 33)).heap.size by simp))
    have hs : w.heap.size ≤ (w.alloc (.cells #[] 33)).heap.size := by simp
    have HS := Lib.hid hs
    have BA := Lib.hid (al (rf w) (.cells #[] 33))
    clear h1 hr hs h0
    go_enter Tryd.func18, Tryd.ntmps18
    go_wp2_with (at_builtin; refine app_any stAd rfl (.tmp 5) (.tmp 6) rfl w.heap.size (.slice (some ⟨w.heap.size, 0, none⟩) 0 0) 0 [] rfl OL.out (some ad) n c xs rfl RA.out H1.out (by omega) (by omega) HS.out ?_; intro v3 w3 own3 gr3 at3 bel3; obtain ⟨A3, k3, rfl⟩ := own_slice own3)
    go_ret
    have own4 : w3.ownsRow w.heap.size 33 1 (.slice A3 n k3) n xs := by simpa using own3
    exact ⟨A3, k3, by simp, own4, BA.out.trans bel3⟩
theorem stQu : SliceTy Tryd.prog 61 66 1 8 (.pointer none) := ⟨Tryd.underlying61, by kernel_rfl, rfl, by omega⟩
set_option maxRecDepth 100000 in
set_option maxHeartbeats 400000 in
theorem cloneQu (A : Option Addr) (n c : Nat) (xs : List Value) (w : World) (hr : Reads w w.heap.size 1 A n xs) (h1 : ∀ u ∈ xs, u.oneCell' = true) (hn : n ≤ 1000000) (h0 : A = none → n = 0) :
    Calls Tryd.prog 23 #[.slice A n c] w fun e w' => ∃ A' c', e = .returned (.slice A' n c') ∧ w'.ownsRow w.heap.size 66 1 (.slice A' n c') n xs ∧ Below w.heap.size w w' := by
  have Q : ∀ (w : World) (a : Option Addr) (n c : Nat), (binOp .eql 61 (.slice a n c) (.slice none 0 0)).run Tryd.prog w = .ok (.bool a.isNone) w := fun w a n c => Lib.run_eql_slice_nil w _ _ a n c 0 0 Tryd.underlying61
  have H1 := Lib.hid h1
  have HR := Lib.hid hr
  cases A with
  | none =>
    obtain rfl := h0 rfl
    have hx : xs = [] := List.eq_nil_of_length_eq_zero (by simpa using hr.1)
    subst hx
    clear h1 hr
    go_enter Tryd.func23, Tryd.ntmps23
    go_wp2
    go_ret
    exact ⟨none, 0, rfl, World.ownsRow_nil _ _ _ _, rf w⟩
  | some ad =>
    have OL : Hid ((w.alloc (.cells #[] 66)).ownsRow w.heap.size 66 1 (.slice (some ⟨w.heap.size, 0, none⟩) 0 0) 0 []) := own_lit w #[] 0 rfl (Nat.le_refl _) (by unfold maxLen; omega) rfl
    have RA := Lib.hid (Reads.more (Reads.alloc hr (Nat.le_refl _) (.cells #[] 66)) (show w.heap.size ≤ (w.alloc (.cells #[] 66)).heap.size by simp))
    have hs : w.heap.size ≤ (w.alloc (.cells #[] 66)).heap.size := by simp
    have HS := Lib.hid hs
    have BA := Lib.hid (al (rf w) (.cells #[] 66))
    clear h1 hr hs h0
    go_enter Tryd.func23, Tryd.ntmps23
    go_wp2_with (at_builtin; refine app_any stQu rfl (.tmp 5) (.tmp 6) rfl w.heap.size (.slice (some ⟨w.heap.size, 0, none⟩) 0 0) 0 [] rfl OL.out (some ad) n c xs rfl RA.out H1.out (by omega) (by omega) HS.out ?_; intro v3 w3 own3 gr3 at3 bel3; obtain ⟨A3, k3, rfl⟩ := own_slice own3)
    go_ret
    have own4 : w3.ownsRow w.heap.size 66 1 (.slice A3 n k3) n xs := by simpa using own3
    exact ⟨A3, k3, by simp, own4, BA.out.trans bel3⟩
theorem stEe : SliceTy Tryd.prog 62 74 1 8 (.pointer none) := ⟨Tryd.underlying62, by kernel_rfl, rfl, by omega⟩
set_option maxRecDepth 100000 in
set_option maxHeartbeats 400000 in
theorem cloneEe (A : Option Addr) (n c : Nat) (xs : List Value) (w : World) (hr : Reads w w.heap.size 1 A n xs) (h1 : ∀ u ∈ xs, u.oneCell' = true) (hn : n ≤ 1000000) (h0 : A = none → n = 0) :
    Calls Tryd.prog 21 #[.slice A n c] w fun e w' => ∃ A' c', e = .returned (.slice A' n c') ∧ w'.ownsRow w.heap.size 74 1 (.slice A' n c') n xs ∧ Below w.heap.size w w' := by
  have Q : ∀ (w : World) (a : Option Addr) (n c : Nat), (binOp .eql 62 (.slice a n c) (.slice none 0 0)).run Tryd.prog w = .ok (.bool a.isNone) w := fun w a n c => Lib.run_eql_slice_nil w _ _ a n c 0 0 Tryd.underlying62
  have H1 := Lib.hid h1
  have HR := Lib.hid hr
  cases A with
  | none =>
    obtain rfl := h0 rfl
    have hx : xs = [] := List.eq_nil_of_length_eq_zero (by simpa using hr.1)
    subst hx
    clear h1 hr
    go_enter Tryd.func21, Tryd.ntmps21
    go_wp2
    go_ret
    exact ⟨none, 0, rfl, World.ownsRow_nil _ _ _ _, rf w⟩
  | some ad =>
    have OL : Hid ((w.alloc (.cells #[] 74)).ownsRow w.heap.size 74 1 (.slice (some ⟨w.heap.size, 0, none⟩) 0 0) 0 []) := own_lit w #[] 0 rfl (Nat.le_refl _) (by unfold maxLen; omega) rfl
    have RA := Lib.hid (Reads.more (Reads.alloc hr (Nat.le_refl _) (.cells #[] 74)) (show w.heap.size ≤ (w.alloc (.cells #[] 74)).heap.size by simp))
    have hs : w.heap.size ≤ (w.alloc (.cells #[] 74)).heap.size := by simp
    have HS := Lib.hid hs
    have BA := Lib.hid (al (rf w) (.cells #[] 74))
    clear h1 hr hs h0
    go_enter Tryd.func21, Tryd.ntmps21
    go_wp2_with (at_builtin; refine app_any stEe rfl (.tmp 5) (.tmp 6) rfl w.heap.size (.slice (some ⟨w.heap.size, 0, none⟩) 0 0) 0 [] rfl OL.out (some ad) n c xs rfl RA.out H1.out (by omega) (by omega) HS.out ?_; intro v3 w3 own3 gr3 at3 bel3; obtain ⟨A3, k3, rfl⟩ := own_slice own3)
    go_ret
    have own4 : w3.ownsRow w.heap.size 74 1 (.slice A3 n k3) n xs := by simpa using own3
    exact ⟨A3, k3, by simp, own4, BA.out.trans bel3⟩
end
section
open Go.RowKit Go.Maps

-- how an element of the map reads: the number of its block
def pR : Value → Option (DataW Unit × List MemPlace)
  | .pointer none => some (.nil, [])
  | .pointer (some ⟨g, o, s⟩) => if o = 0 ∧ s = none then some (.lit (.int .i64 g), []) else none
  | _ => none
def pV : Option Nat → Value
  | none => .pointer none
  | some g => .pointer (some ⟨g, 0, none⟩)
def pD : Option Nat → DataW Unit
  | none => .nil
  | some g => .lit (.int .i64 g)
theorem pR_mk (o : Option Nat) : pR (pV o) = some (pD o, []) := by
  cases o <;> simp [pV, pR, pD]
theorem pR_inv (v : Value) (y : DataW Unit × List MemPlace) (h : pR v = some y) : ∃ o, v = pV o ∧ y = (pD o, []) := by
  unfold pR at h
  split at h
  · injection h with h; exact ⟨none, rfl, h.symm⟩
  · split at h
    · rename_i hh
      obtain ⟨rfl, rfl⟩ := hh
      injection h with h; exact ⟨some _, rfl, h.symm⟩
    · cases h
  · cases h
theorem pD_inj {a b : Option Nat} (h : pD a = pD b) : a = b := by
  cases a <;> cases b <;> simp [pD] at h ⊢
  omega
theorem strK : Keyed Tryd.prog 9 := string_keyed Tryd.underlying9
theorem zeroE (w : World) : (zeroValue 74).run Tryd.prog w = .ok (.pointer none) w := by kernel_rfl
-- nothing is kept
def KE (w : World) (km : Nat) : Prop := w.ownsMap Tryd.prog 9 pR km 0 (.map [])
theorem KE.keep {w w' : World} {km : Nat} {ts : List TypeId} (h : KE w km) (k : KeepT w.heap.size ts w w') (hn : 60 ∉ ts) : KE w' km := by
  have hlt := World.ownsMap.lt h
  obtain ⟨es, c, hb, r⟩ := h
  exact ⟨es, c, k km _ hlt hb hn, r⟩
theorem KE.nx {w w' : World} {km : Nat} (h : KE w km) (k : Below w.heap.size w w') : KE w' km := h.keep (KeepT.of_below (ts := []) k (Nat.le_refl _)) (by simp)
theorem KE.look {w : World} {km : Nat} (h : KE w km) (s : ByteArray) (hs : s.size ≤ maxLen) :
    (Instr.lookup 60 (.map (some km)) (.string s) false).run Tryd.prog w = .ok (.pointer none) w := by
  have hk : keyOf Tryd.prog 9 (.string s) = some (.string s.data.toList) := Go.WideMaps.keyOf_string_mk Tryd.underlying9 hs
  obtain ⟨v, ps, hrun, hv⟩ := World.ownsMap.lookup h strK Tryd.underlying60 (zeroE w) (pR_mk none) hk
  obtain ⟨o, rfl, ho⟩ := pR_inv v _ hv
  rw [hrun]
  have e : pD none = pD o := congrArg Prod.fst ho
  obtain rfl := pD_inj e
  rfl
set_option maxRecDepth 100000 in
set_option maxHeartbeats 800000 in
theorem newC (w : World) (A : Option Addr) (sv : List Int) (c : Nat) (port : Int) (hr : Reads w w.heap.size 1 A sv.length (sv.map (Value.int .u32))) (h0 : A = none → sv.length = 0) (h1 : 1 ≤ sv.length) (h3 : sv.length ≤ 3) (p1 : 1 ≤ port) (p2 : port ≤ 65535) :
    Calls Tryd.prog 10 #[.slice A sv.length c, .int .i64 port] w fun e w' => ∃ z rb, e = .returned (.tuple #[ptr rb, .int .i64 0]) ∧ IsRv w' w.heap.size rb z ∧ KE w' z.km ∧ z.sv = sv ∧ z.port = port ∧ z.sent = 0 ∧ z.qs = [] ∧ z.QA = none ∧ z.qc = 0 ∧ z.age = .slice none 0 0 ∧ Below w.heap.size w w' := by
  have HC := Lib.hid (cloneAd A sv.length c _ w hr (one_all sv (fun _ => rfl)) (by omega) h0)
  have hmk : ∀ w, (Instr.makeMap 60 none).run Tryd.prog w = .ok (.map (some w.heap.size)) (w.alloc (.map #[] 0)) := fun w => by simp [Instr.makeMap]
  have l1 : ¬ (sv.length : Int) < 1 := by omega
  have l3 : ¬ (3 : Int) < sv.length := by omega
  have l4 : ¬ port < 1 := by omega
  have l5 : ¬ 65535 < port := by omega
  clear hr h0 h1 h3 p1 p2
  go_enter Tryd.func10, Tryd.ntmps10
  go_wp2_with fail
  refine HC.out.mono ?_
  rintro e w1 ⟨A1, c1, rfl, own, b1⟩
  have OW := Lib.hid own
  have B1 := Lib.hid b1
  have hs1 := b1.size
  clear own b1
  go_wp2
  go_ret2
  have KM : KE (w1.alloc (.map #[] 0)) w1.heap.size := World.ownsMap_made w1 _ _ _
  have k2 : Below (w1.alloc (.map #[] 0)).heap.size (w1.alloc (.map #[] 0)) ((w1.alloc (.map #[] 0)).alloc (.cells #[.slice A1 sv.length c1, .int .i64 port, .int .i64 0, .slice none 0 0, .map (some w1.heap.size), .slice none 0 0] 64)) := al (rf _) _
  refine ⟨⟨sv, A1, c1, port, 0, [], none, 0, w1.heap.size, .slice none 0 0⟩, w1.heap.size + 1, rfl, ⟨blk_at _ _ _ (by simp), by omega, ?_, World.ownsRow_nil _ _ _ _, by simp, by simp⟩, KM.nx k2, rfl, rfl, rfl, rfl, rfl, rfl, rfl, ?_⟩
  · exact (OW.out.alloc _).alloc _
  · exact nx B1.out (al (al (rf w1) _) _)
end
section
open Go.RowKit Go.Maps

def lowS (a : ByteArray) : ByteArray := ⟨(a.data.toList.map fun c => UInt8.ofNat (lowN c.toNat)).toArray⟩
theorem lowS_size (a : ByteArray) : (lowS a).size = a.size := by
  show (a.data.toList.map fun c => UInt8.ofNat (lowN c.toNat)).toArray.size = a.data.size
  simp
theorem keyS (a : ByteArray) (w : World) (ha : a.size ≤ 1099511627776) : Calls Tryd.prog 60 #[.string a] w fun e w' => e = .returned (.string (lowS a)) ∧ Below w.heap.size w w' :=
  (keyC a w ha).mono fun e w' ⟨s, he, hs, hb⟩ => ⟨by rw [he]; congr 2; exact bytes_ext (by rw [hs]; rfl), hb⟩
set_option maxRecDepth 100000 in
set_option maxHeartbeats 800000 in
theorem haveE (w : World) (wb rb km : Nat) (s : ByteArray) (hs : s.size ≤ 1000000) (WC RC : Array Value) (hw : Blk w wb 71 WC) (hw0 : WC[0]? = some (.pointer (some ⟨rb, 0, none⟩))) (hr : Blk w rb 64 RC) (hr4 : RC[4]? = some (.map (some km))) (hk : KE w km) :
    Calls Tryd.prog 44 #[.pointer (some ⟨wb, 0, none⟩), .string s] w fun e w' => e = .returned (.pointer none) ∧ Below w.heap.size w w' := by
  have K0 : ∀ x : Bw w, x.w.cell? ⟨wb, 0, none⟩ = some (.pointer (some ⟨rb, 0, none⟩)) := fun x => ((hw.nx x.h).cell 0).trans hw0
  have K4 : ∀ x : Bw w, x.w.cell? ⟨rb, 4, none⟩ = some (.map (some km)) := fun x => ((hr.nx x.h).cell 4).trans hr4
  have KL : ∀ x : Bw w, (Instr.lookup 60 (.map (some km)) (.string (lowS s)) false).run Tryd.prog x.w = .ok (.pointer none) x.w := fun x => (hk.nx x.h).look _ (by rw [lowS_size]; unfold maxLen; omega)
  clear hw hw0 hr hr4 hk
  go_enter Tryd.func44, Tryd.ntmps44
  go_wp2
  refine wp_region_below (by kernel_rfl) (by kernel_rfl) ?_
  repeat (go_big_quiet_step (first
    | (go_at_call 60; exact Calls.bw _ (keyS s _ (by omega)))))
  refine wpQuiet_nil ?_
  intro _ hw'
  obtain ⟨y, rfl⟩ := hw'
  have HY := Lib.hid y.h
  go_wp2
  go_quiet (fail)
  go_wp2
  go_ret
  exact ⟨rfl, dn HY.out _⟩
end
section
open Go.RowKit

def IsB (w : World) (g : Nat) : Prop := ∃ t cs, Blk w g t cs
theorem ptr_eq {a b : Nat} {w : World} (ha : IsB w a) (hb : IsB w b) : (binOp .eql 66 (.pointer (some ⟨a, 0, none⟩)) (.pointer (some ⟨b, 0, none⟩))).run Tryd.prog w = .ok (.bool (a == b)) w := by
  obtain ⟨j, hj, hs⟩ : ∃ j, Tryd.prog.info? 68 = some j ∧ j.size ≠ 0 := by
    have h : (Tryd.prog.info? 68).map (·.size) = some 7 := by kernel_rfl
    cases hi : Tryd.prog.info? 68 with
    | none => rw [hi] at h; cases h
    | some j => rw [hi] at h; exact ⟨j, rfl, by injection h with h; have h : j.size = 7 := h; omega⟩
  by_cases hab : a = b
  · subst hab
    rw [run_eql_ptr_same w _ Tryd.underlying66 hj, beq_self_eq_true]
  · obtain ⟨ta, ca, ha⟩ := ha
    obtain ⟨tb, cb, hb⟩ := hb
    rw [run_eql_ptr_other (a := ⟨a, 0, none⟩) (b := ⟨b, 0, none⟩) w Tryd.underlying66 hj hs (by intro e; injection e with e; exact hab e) ha hb, beq_eq_false_iff_ne.2 hab]
set_option maxRecDepth 100000 in
set_option maxHeartbeats 800000 in
theorem indexC (w : World) (A : Option Addr) (c : Nat) (ps : List Nat) (g : Nat) (hr : Reads w w.heap.size 1 A ps.length (ps.map ptr)) (hl : ps.length ≤ 1000000) (hg : IsB w g) (hps : ∀ p ∈ ps, IsB w p) :
    Calls Tryd.prog 65 #[.slice A ps.length c, .pointer (some ⟨g, 0, none⟩)] w fun e w' => (∃ i : Int, e = .returned (.int .i64 i) ∧ (0 ≤ i ↔ g ∈ ps)) ∧ w' = w := by
  have HR := Lib.hid hr
  have HG0 := Lib.hid hg
  have HPS := Lib.hid hps
  clear hr hg hps
  obtain ⟨wz, hwz⟩ : ∃ wz, wz = w := ⟨_, rfl⟩
  have HWZ := Lib.hid hwz
  clear hwz
  go_enter Tryd.func65, Tryd.ntmps65
  go_wp2
  go_loopw [8] (fun kv wr => ∃ k : Nat, kv = .int .i64 k ∧ k ≤ ps.length ∧ Hid (wr = wz) ∧ Hid (∀ j, j < k → ps[j]? ≠ some g)) (fun kv _ => ps.length - (intOf kv).toNat)
  case atStart => exact ⟨0, rfl, by omega, HWZ.out.symm, fun j h => absurd h (by omega)⟩
  case round =>
    obtain ⟨k, rfl, hk, HW, HN⟩ := hrel
    have e0 : wr = w := HW.out.trans HWZ.out
    subst e0
    by_cases hlt : k < ps.length
    · obtain ⟨ad, u, rfl, _, hu, hc⟩ := HR.out.at_ hlt
      have k0 : (0 : Int) ≤ k := by omega
      have k1 : (k : Int) < ps.length := by omega
      obtain ⟨p, hp⟩ : ∃ p, ps[k]? = some p := ⟨_, List.getElem?_eq_getElem hlt⟩
      have hup : u = .pointer (some ⟨p, 0, none⟩) := by rw [List.getElem?_map, hp] at hu; exact (Option.some.inj hu).symm
      rw [hup] at hc
      have HE := Lib.hid (ptr_eq HG0.out (HPS.out p (List.mem_of_getElem? hp)))
      have HP := Lib.hid hp
      clear hp hu hup
      by_cases hgp : g = p
      · have e1 : (binOp .eql 66 (.pointer (some ⟨g, 0, none⟩)) (.pointer (some ⟨p, 0, none⟩))).run Tryd.prog wr = .ok (.bool true) wr := by rw [HE.out, beq_iff_eq.2 hgp]
        have HG := Lib.hid hgp
        clear hgp
        go_wp2
        go_ret
        refine ⟨⟨k, rfl, ?_⟩, rfl⟩
        rw [HG.out]
        exact ⟨fun _ => List.mem_of_getElem? HP.out, fun _ => by omega⟩
      · have e1 : (binOp .eql 66 (.pointer (some ⟨g, 0, none⟩)) (.pointer (some ⟨p, 0, none⟩))).run Tryd.prog wr = .ok (.bool false) wr := by rw [HE.out]; congr 2; simpa using hgp
        have HG := Lib.hid hgp
        clear hgp
        go_wp2
        go_roundw
        case rel => exact ⟨k + 1, by go_num, by omega, HW.out, fun j hj => by
          by_cases hj2 : j < k
          · exact HN.out j hj2
          · obtain rfl : j = k := by omega
            rw [HP.out]; intro h; exact HG.out (Option.some.inj h).symm⟩
        case measure => simp [intOf]; omega
    · go_wp2
      go_ret
      refine ⟨⟨-1, rfl, fun h => absurd h (by omega), fun h => ?_⟩, rfl⟩
      exfalso
      obtain ⟨j, hj⟩ := List.getElem?_of_mem h
      exact HN.out j (by have := (List.getElem?_eq_some_iff.1 hj).1; omega) hj
theorem containsC (w : World) (A : Option Addr) (c : Nat) (ps : List Nat) (g : Nat) (hr : Reads w w.heap.size 1 A ps.length (ps.map ptr)) (hl : ps.length ≤ 1000000) (hg : IsB w g) (hps : ∀ p ∈ ps, IsB w p) :
    Calls Tryd.prog 47 #[.slice A ps.length c, .pointer (some ⟨g, 0, none⟩)] w fun e w' => e = .returned (.bool (ps.contains g)) ∧ w' = w := by
  have HC := Lib.hid (indexC w A c ps g hr hl hg hps)
  clear hr hg hps
  go_enter Tryd.func47, Tryd.ntmps47
  go_wp2_with fail
  refine HC.out.mono ?_
  rintro e w1 ⟨⟨i, rfl, hi⟩, rfl⟩
  have HI := Lib.hid hi
  clear hi
  go_wp2
  go_ret
  refine ⟨ret_bool ?_, rfl⟩
  rw [Bool.eq_iff_iff, decide_eq_true_iff, List.contains_iff_mem]
  exact HI.out
end
section
open Go.RowKit Go.Maps

-- w' is w but for the blocks g (a question) and rb (its resolver)
structure T4 (w w' : World) (g rb wb : Nat) (qc rc wc : Array Value) : Prop where
  hq : Blk w' g 68 qc
  hr : Blk w' rb 64 rc
  hw : Blk w' wb 71 wc
  same : ∀ i, i ≠ g → i ≠ rb → w'.heap[i]? = w.heap[i]?
  size : w'.heap.size = w.heap.size
  os : w'.os = w.os
  tape : w'.tape = w.tape
  output : w'.output = w.output
section
variable {w w' : World} {g rb wb : Nat} {qc rc wc : Array Value}
theorem T4.start (hq : Blk w g 68 qc) (hr : Blk w rb 64 rc) (hw : Blk w wb 71 wc) : T4 w w g rb wb qc rc wc :=
  ⟨hq, hr, hw, fun _ _ _ => rfl, rfl, rfl, rfl, rfl⟩
theorem T4.ngr (h : T4 w w' g rb wb qc rc wc) : g ≠ rb := h.hq.ne_ h.hr (by decide)
theorem T4.ngw (h : T4 w w' g rb wb qc rc wc) : g ≠ wb := h.hq.ne_ h.hw (by decide)
theorem T4.nrw (h : T4 w w' g rb wb qc rc wc) : rb ≠ wb := h.hr.ne_ h.hw (by decide)
theorem T4.setG (h : T4 w w' g rb wb qc rc wc) (i : Nat) (v : Value) : T4 w (w'.setCell ⟨g, i, none⟩ v) g rb wb (qc.setIfInBounds i v) rc wc :=
  ⟨h.hq.set_ i v, h.hr.far (p := ⟨g, i, none⟩) h.ngr.symm v, h.hw.far (p := ⟨g, i, none⟩) h.ngw.symm v, fun j h1 h2 => (Below.heap_setCell w' ⟨g, i, none⟩ v j h1).trans (h.same j h1 h2), by rw [← h.size]; simp [World.setCell], h.os, h.tape, h.output⟩
theorem T4.setR (h : T4 w w' g rb wb qc rc wc) (i : Nat) (v : Value) : T4 w (w'.setCell ⟨rb, i, none⟩ v) g rb wb qc (rc.setIfInBounds i v) wc :=
  ⟨h.hq.far (p := ⟨rb, i, none⟩) h.ngr v, h.hr.set_ i v, h.hw.far (p := ⟨rb, i, none⟩) h.nrw.symm v, fun j h1 h2 => (Below.heap_setCell w' ⟨rb, i, none⟩ v j h2).trans (h.same j h1 h2), by rw [← h.size]; simp [World.setCell], h.os, h.tape, h.output⟩
theorem T4.drew (h : T4 w w' g rb wb qc rc wc) : T4 w w'.drew g rb wb qc rc wc := ⟨h.hq, h.hr, h.hw, h.same, h.size, h.os, h.tape, h.output⟩
theorem T4.below {B : Nat} (h : T4 w w' g rb wb qc rc wc) (hg : B ≤ g) (hr : B ≤ rb) : Below B w w' :=
  ⟨h.os, h.tape, h.output, Nat.le_of_eq h.size.symm, fun i hi => h.same i (by omega) (by omega)⟩
theorem T4.keep {q0 r0 : Array Value} {n : Nat} (h : T4 w w' g rb wb qc rc wc) (hq : Blk w g 68 q0) (hr : Blk w rb 64 r0) : KeepT n [68, 64] w w' := fun i o hi ho hn => by
  by_cases h1 : i = g
  · subst h1
    unfold Blk at hq; rw [hq] at ho; injection ho with ho; subst ho
    exact absurd (by simp [tyIn]) hn
  · by_cases h2 : i = rb
    · subst h2
      unfold Blk at hr; rw [hr] at ho; injection ho with ho; subst ho
      exact absurd (by simp [tyIn]) hn
    · rw [h.same i h1 h2]; exact ho
end
def Rz.upd (z : Rz) (g : Nat) (q : Qn) : Rz := { z with qs := z.qs.map fun p => if p.1 = g then (g, q) else p }
theorem Rz.upd_fst (z : Rz) (g : Nat) (q : Qn) : (z.upd g q).qs.map (·.1) = z.qs.map (·.1) := by
  unfold Rz.upd
  simp only [List.map_map]
  refine List.map_congr_left fun p _ => ?_
  show (if p.1 = g then (g, q) else p).1 = p.1
  split
  · rename_i h; exact h.symm
  · rfl
theorem Rz.upd_len (z : Rz) (g : Nat) (q : Qn) : (z.upd g q).qs.length = z.qs.length := by unfold Rz.upd; simp
theorem map_ptr (l : List (Nat × Qn)) : l.map (fun p => ptr p.1) = (l.map (·.1)).map ptr := by simp
theorem IsRv.of4 {w w' : World} {B g rb wb : Nat} {z : Rz} {q' : Qn} {s : Int} {wc : Array Value} (h : IsRv w B rb z) (t : T4 w w' g rb wb q'.cs ({ z with sent := s } : Rz).cs wc) (hg : ∃ q, (g, q) ∈ z.qs) : IsRv w' B rb { z.upd g q' with sent := s } := by
  obtain ⟨q, hm⟩ := hg
  have hq := (h.q _ hm).1
  have k := t.keep (n := w.heap.size) hq h.b
  refine ⟨?_, h.lo, k.own h.sv (by decide), ?_, fun p hp => ?_, ?_⟩
  · have e : ({ z.upd g q' with sent := s } : Rz).cs = ({ z with sent := s } : Rz).cs := by
      unfold Rz.cs
      show #[_, _, _, Value.slice z.QA (z.upd g q').qs.length z.qc, _, _] = _
      rw [Rz.upd_len]
      rfl
    rw [e]; exact t.hr
  · have h1 := k.own h.qs (by decide)
    show w'.ownsRow B _ 1 (.slice z.QA (z.upd g q').qs.length z.qc) (z.upd g q').qs.length ((z.upd g q').qs.map fun p => ptr p.1)
    rw [Rz.upd_len, map_ptr, Rz.upd_fst, ← map_ptr]
    exact h1
  · obtain ⟨p0, hp0, rfl⟩ := List.mem_map.1 (show p ∈ z.qs.map fun p => if p.1 = g then (g, q') else p from hp)
    by_cases e : p0.1 = g
    · rw [if_pos e]
      refine ⟨t.hq, ?_⟩
      have := (h.q p0 hp0).2
      rw [e] at this
      exact this
    · rw [if_neg e]
      obtain ⟨h1, h2⟩ := h.q p0 hp0
      refine ⟨?_, h2⟩
      unfold Blk
      rw [t.same p0.1 e (h1.ne_ h.b (by decide))]
      exact h1
  · show ((z.upd g q').qs.map (·.1)).Nodup
    rw [Rz.upd_fst]
    exact h.nd
theorem IsWk.of4 {w w' : World} {N g rb rb2 wb : Nat} {now draw : Int} {fs : List Fd} {FA DA : Option Addr} {fc dc : Nat} {ds : List Dg} {q0 r0 qc rc wc : Array Value} (h : IsWk w N wb rb2 now draw fs FA fc ds DA dc) (t : T4 w w' g rb wb qc rc wc)
    (hq : Blk w g 68 q0) (hr : Blk w rb 64 r0) : IsWk w' N wb rb2 now draw fs FA fc ds DA dc :=
  h.keep (t.keep hq hr) (by decide) (by decide) (by decide) (by decide) (by decide)
end
end Go.Proofs.YtpfkmmmlocmakaaDoor
