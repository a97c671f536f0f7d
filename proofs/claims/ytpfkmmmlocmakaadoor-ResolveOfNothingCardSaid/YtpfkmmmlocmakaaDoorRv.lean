/-
  Resolve: a resolver and a call's work in memory, and what a step may touch.
-/
import Derived.Test.YtpfkmmmlocmakaaDoorMem
import Derived.Test.YtpfkmmmlocmakaaDoorOctW
set_option linter.unusedVariables false
namespace Go.Proofs.YtpfkmmmlocmakaaDoor
open Go.RowKit

-- which blocks a step may touch: by their types; a map is named by its type
def tyIn (ts : List TypeId) : Obj → Prop
  | .cells _ t _ => t ∈ ts
  | .map _ _ => 60 ∈ ts
  | _ => False
-- the blocks below n are as they were, but for those of the types ts
def KeepT (n : Nat) (ts : List TypeId) (w w' : World) : Prop := ∀ i o, i < n → w.heap[i]? = some o → ¬ tyIn ts o → w'.heap[i]? = some o
section
variable {w w' w2 : World} {n m g B : Nat} {ts us : List TypeId} {t e : TypeId} {cs : Array Value}
theorem tyIn_mono {o : Obj} (h : ∀ t ∈ ts, t ∈ us) (k : tyIn ts o) : tyIn us o := by
  cases o <;> simp only [tyIn] at k ⊢
  all_goals exact h _ k
theorem KeepT.refl : KeepT n ts w w := fun _ _ _ h _ => h
theorem KeepT.mono (h : KeepT n ts w w') (k : ∀ t ∈ ts, t ∈ us) : KeepT n us w w' := fun i o hi ho hn => h i o hi ho fun hh => hn (tyIn_mono k hh)
theorem KeepT.less (h : KeepT n ts w w') (k : m ≤ n) : KeepT m ts w w' := fun i o hi ho hn => h i o (by omega) ho hn
theorem KeepT.trans (h : KeepT n ts w w') (k : KeepT n ts w' w2) : KeepT n ts w w2 := fun i o hi ho hn => k i o hi (h i o hi ho hn) hn
theorem KeepT.trans_ (h : KeepT w.heap.size ts w w') (k : KeepT w'.heap.size ts w' w2) (hs : w.heap.size ≤ w'.heap.size) : KeepT w.heap.size ts w w2 := h.trans (k.less hs)
theorem KeepT.of_below (h : Below B w w') (hB : n ≤ B) : KeepT n ts w w' := fun i o hi ho _ => by rw [h.block i (by omega)]; exact ho
theorem KeepT.of_grown (h : w.grownBy w' (some g)) (hg : n ≤ g ∨ ∃ cs fr, w.heap[g]? = some (.cells cs t fr) ∧ t ∈ ts) (hs : n ≤ w.heap.size) : KeepT n ts w w' := fun i o hi ho hn => by
  have hne : i ≠ g := by
    rintro rfl
    rcases hg with hg | ⟨cs, fr, hg, ht⟩
    · omega
    · rw [hg] at ho; injection ho with ho; subst ho; exact hn ht
  rw [h.block i (by omega) (by intro e; injection e with e; exact hne e)]; exact ho
theorem KeepT.of_none (h : w.grownBy w' none) (hs : n ≤ w.heap.size) : KeepT n ts w w' := fun i o hi ho hn => by
  rw [h.block i (by omega) (by simp)]; exact ho
theorem KeepT.of_set {i : Nat} (hb : Blk w g t cs) (v : Value) (hg : n ≤ g ∨ t ∈ ts) (hs : n ≤ w.heap.size) : KeepT n ts w (w.setCell ⟨g, i, none⟩ v) := fun j o hj ho hn => by
  have hne : j ≠ g := by
    rintro rfl
    rcases hg with hg | ht
    · omega
    · unfold Blk at hb; rw [hb] at ho; injection ho with ho; subst ho; exact hn ht
  exact (Below.heap_setCell w ⟨g, i, none⟩ v j hne).trans ho
theorem KeepT.of_row {size k c : Nat} {A : Option Addr} {xs : List Value} (h : w.grownBy w' (Value.slice A k c).ownBlock) (own : w.ownsRow B e size (.slice A k c) k xs) (hg : n ≤ B ∨ e ∈ ts) (hs : n ≤ w.heap.size) : KeepT n ts w w' := by
  rcases own.2 with ⟨e2, h0⟩ | ⟨g, cap, cur, e2, hB, hh, _⟩
  · rw [e2] at h
    exact KeepT.of_none h hs
  · rw [e2] at h
    refine KeepT.of_grown (t := e) (g := g) h ?_ hs
    rcases hg with hg | hg
    · exact .inl (by omega)
    · exact .inr ⟨_, _, hh, hg⟩
theorem KeepT.blk (h : KeepT n ts w w') (hg : Blk w g t cs) (hn : t ∉ ts) (hlt : g < n) : Blk w' g t cs := h g _ hlt hg hn
theorem KeepT.blk_ (h : KeepT w.heap.size ts w w') (hg : Blk w g t cs) (hn : t ∉ ts) : Blk w' g t cs := h g _ hg.lt hg hn
theorem KeepT.own {size k : Nat} {v : Value} {xs : List Value} (h : KeepT w.heap.size ts w w') (own : w.ownsRow B e size v k xs) (hn : e ∉ ts) : w'.ownsRow B e size v k xs := by
  refine ⟨own.1, ?_⟩
  rcases own.2 with h0 | ⟨g, cap, cur, rfl, hg, hh, hr⟩
  · exact .inl h0
  · exact .inr ⟨g, cap, cur, rfl, hg, h g _ (Blk.lt hh) hh hn, hr⟩
theorem KeepT.bytes {A : Option Addr} {c : Nat} {l : List UInt8} (h : KeepT w.heap.size ts w w') (own : w.ownsRow B 5 1 (.slice A l.length c) l.length (Lib.byteCells l)) (hn : 5 ∉ ts) : Bytes w' A l := Bytes.own (h.own own hn)
end

-- a question
structure Qn where
  (first name : ByteArray)
  (follows id server asked next : Int)
def Qn.cs (q : Qn) : Array Value := #[.string q.first, .string q.name, .int .i64 q.follows, .int .i64 q.id, .int .i64 q.server, .int .i64 q.asked, .int .i64 q.next]
-- a datagram that is sent, and what is found
structure Dg where
  (port to : Int)
  da : List UInt8
  A : Option Addr
  k : Nat
def Dg.cs (d : Dg) : List Value := [.int .u32 0, .int .i64 d.port, .int .u32 d.to, .int .i64 53, .slice d.A d.da.length d.k]
structure Fd where
  nm : ByteArray
  err : Int
  ad : List Int
  A : Option Addr
  k : Nat
def Fd.cs (f : Fd) : List Value := [.string f.nm, .int .i64 f.err, .slice f.A f.ad.length f.k]
-- a resolver
structure Rz where
  sv : List Int
  SA : Option Addr
  sc : Nat
  (port sent : Int)
  qs : List (Nat × Qn)
  QA : Option Addr
  qc : Nat
  km : Nat
  age : Value
def ptr (g : Nat) : Value := .pointer (some ⟨g, 0, none⟩)
def Rz.cs (z : Rz) : Array Value := #[.slice z.SA z.sv.length z.sc, .int .i64 z.port, .int .i64 z.sent, .slice z.QA z.qs.length z.qc, .map (some z.km), z.age]
structure IsRv (w : World) (B rb : Nat) (z : Rz) : Prop where
  b : Blk w rb 64 z.cs
  lo : B ≤ rb
  sv : w.ownsRow B 33 1 (.slice z.SA z.sv.length z.sc) z.sv.length (z.sv.map (Value.int .u32))
  qs : w.ownsRow B 66 1 (.slice z.QA z.qs.length z.qc) z.qs.length (z.qs.map fun p => ptr p.1)
  q : ∀ p ∈ z.qs, Blk w p.1 68 p.2.cs ∧ B ≤ p.1
  nd : (z.qs.map (·.1)).Nodup
-- a call's work; N: where the call's own memory begins
structure IsWk (w : World) (N wb rb : Nat) (now draw : Int) (fs : List Fd) (FA : Option Addr) (fc : Nat) (ds : List Dg) (DA : Option Addr) (dc : Nat) : Prop where
  b : Blk w wb 71 #[ptr rb, .int .i64 now, .int .i64 draw, .slice FA fs.length fc, .slice DA ds.length dc]
  lo : N ≤ wb
  f : w.ownsRow N 39 3 (.slice FA fs.length fc) fs.length (fs.flatMap Fd.cs)
  d : w.ownsRow N 36 5 (.slice DA ds.length dc) ds.length (ds.flatMap Dg.cs)
  fd : ∀ x ∈ fs, w.ownsRow N 33 1 (.slice x.A x.ad.length x.k) x.ad.length (x.ad.map (Value.int .u32))
  dd : ∀ x ∈ ds, w.ownsRow N 5 1 (.slice x.A x.da.length x.k) x.da.length (Lib.byteCells x.da)
section
variable {w w' : World} {B N rb wb : Nat} {z : Rz} {now draw : Int} {fs : List Fd} {FA DA : Option Addr} {fc dc : Nat} {ds : List Dg} {ts : List TypeId}
theorem IsRv.keep (h : IsRv w B rb z) (k : KeepT w.heap.size ts w w') (h1 : 64 ∉ ts) (h2 : 33 ∉ ts) (h3 : 66 ∉ ts) (h4 : 68 ∉ ts) : IsRv w' B rb z :=
  ⟨k.blk_ h.b h1, h.lo, k.own h.sv h2, k.own h.qs h3, fun p hp => ⟨k.blk_ (h.q p hp).1 h4, (h.q p hp).2⟩, h.nd⟩
theorem IsRv.nx (h : IsRv w B rb z) (k : Below w.heap.size w w') : IsRv w' B rb z := h.keep (KeepT.of_below (ts := []) k (Nat.le_refl _)) (by simp) (by simp) (by simp) (by simp)
theorem IsWk.keep (h : IsWk w N wb rb now draw fs FA fc ds DA dc) (k : KeepT w.heap.size ts w w') (h1 : 71 ∉ ts) (h2 : 39 ∉ ts) (h3 : 36 ∉ ts) (h4 : 33 ∉ ts) (h5 : 5 ∉ ts) : IsWk w' N wb rb now draw fs FA fc ds DA dc :=
  ⟨k.blk_ h.b h1, h.lo, k.own h.f h2, k.own h.d h3, fun x hx => k.own (h.fd x hx) h4, fun x hx => k.own (h.dd x hx) h5⟩
theorem IsWk.nx (h : IsWk w N wb rb now draw fs FA fc ds DA dc) (k : Below w.heap.size w w') : IsWk w' N wb rb now draw fs FA fc ds DA dc := h.keep (KeepT.of_below (ts := []) k (Nat.le_refl _)) (by simp) (by simp) (by simp) (by simp) (by simp)
end
end Go.Proofs.YtpfkmmmlocmakaaDoor
