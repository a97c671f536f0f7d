/-
  UDPBack: what a datagram is written as is read as it; behind a wrong address it is refused, if that is unlike by one byte. No conditions.
-/
import Derived.Test.YtbhplleaokncpaaUdT
import Derived.Test.YtbhplleaokncpaaOpen3
set_option linter.unusedVariables false
namespace Go.Proofs.Ytbhplleaokncpaa
open Go.ChangeShapes Go.WideShapes Go.ChangeAt Go.RowKit
set_option maxRecDepth 100000

-- an append onto a row of one's own that is told from its first cells: these stay
theorem run_append_keeps {P : Program} (w : World) (base : Nat) (t ty e : TypeId) (i : TypeInfo) (z : Value) (bytes : Nat) (ht : P.underlying t = some (.slice e)) (hi : P.info? e = some i) (hz : i.zero = some z) (hsize : i.size = 1) (hby : i.bytes = bytes) (hzs : z.cells.size = 1)
    (g n cap : Nat) (xs : List Value) (hown : w.ownsRow base e 1 (.slice (some ⟨g, 0, none⟩) n cap) n xs) (A : Option Addr) (m c : Nat) (news : List Value) (hr : Reads w w.heap.size 1 A m news) (h1 : ∀ u ∈ news, u.oneCell' = true)
    (h63 : n + m ≤ 140737488355328) (hbytes : (n + m) * bytes ≤ 140737488355328) :
    ∃ A' c' w', (Builtin.append_ #[t, t] ty #[.slice (some ⟨g, 0, none⟩) n cap, .slice A m c]).run P w = .ok (.slice A' (n + m) c') w' ∧ Reads w' w'.heap.size 1 A' (n + m) (xs ++ news) ∧ w.grownBy w' (some g) ∧
      Reads w' w'.heap.size 1 (some ⟨g, 0, none⟩) n xs ∧ n + m ≤ c' := by
  have hxn : xs.length = n := by have := hown.1; omega
  rcases hown.2 with ⟨h0, _⟩ | ⟨g', cap', cur, h0, hbg, hg, hnc, hcm, hcs, htake⟩
  · cases h0
  injection h0 with h0 _ h0'
  injection h0 with h0
  injection h0 with h0 _ _
  subst h0 h0'
  have hgl : g < w.heap.size := Blk.lt (cs := cur) hg
  have old : Reads w w.heap.size 1 (some ⟨g, 0, none⟩) n xs := Reads.of_own hown
  rcases A with _ | ad
  · have hm : m = 0 := by
      rcases Nat.eq_zero_or_pos m with h0 | h0
      · exact h0
      · obtain ⟨ad, h, _⟩ := hr.2 h0; cases h
    subst hm
    have hn : news = [] := List.eq_nil_of_length_eq_zero (by simpa using hr.1)
    subst hn
    exact ⟨_, _, w, run_append_of_nil w base t ty e i 1 ht hi _ n xs hown c, by simpa using old, World.grownBy.refl w _, old, by omega⟩
  have hcells : ∀ j u, news[j]? = some u → w.cell? (ad.add j) = some u := by
    intro j u hu
    rcases Nat.eq_zero_or_pos m with h0 | h0
    · subst h0
      have hn : news = [] := List.eq_nil_of_length_eq_zero (by simpa using hr.1)
      subst hn; simp at hu
    · obtain ⟨ad', h, _, hc⟩ := hr.2 h0
      injection h with h; subst h
      exact hc j u hu
  have hnl : news.length = m := by have := hr.1; omega
  have hxt : cur.toList.take n = xs := by rw [← htake, Nat.mul_one]
  by_cases hroom : n + m ≤ cap
  · have hrun := run_append_room (P := P) w t ty e i ht hi g n cap cur hg ad m c news (by rw [hsize]; omega) hcells h1 hroom (by rw [hsize, hnl]; omega)
    rw [hsize, Nat.mul_one] at hrun
    have hG := setRow_heap w g cur (cur.toList.take n ++ news ++ cur.toList.drop (n + news.length)).toArray e (0, 0) hg
    refine ⟨_, _, _, hrun, ?_, ⟨rfl, rfl, rfl, by simp, fun k _ hk => setRow_other w g k _ (fun e => hk (by rw [e]))⟩, ?_, hroom⟩
    · refine ⟨by simp [hxn, hnl], fun _ => ⟨_, rfl, by simpa using hgl, fun j u hu => ?_⟩⟩
      have hj : j < (xs ++ news).length := (List.getElem?_eq_some_iff.1 hu).1
      rw [Addr.add_mid, Nat.zero_add]
      refine (Blk.cell hG j).trans ?_
      rw [hxt, List.getElem?_toArray, List.getElem?_append_left hj, hu]
    · refine ⟨by omega, fun _ => ⟨_, rfl, by simpa using hgl, fun j u hu => ?_⟩⟩
      have hj : j < xs.length := (List.getElem?_eq_some_iff.1 hu).1
      rw [Addr.add_mid, Nat.zero_add]
      refine (Blk.cell hG j).trans ?_
      rw [hxt, List.getElem?_toArray, List.getElem?_append_left (by rw [List.length_append]; omega), List.getElem?_append_left hj, hu]
  · have hrun := run_append_grow (P := P) w t ty e i z ht hi hz ⟨g, 0, none⟩ n cap xs (by rw [hsize]; omega) (hown.cells (g := g) rfl) ad m c news (by rw [hsize]; omega) hcells (by omega) (by omega) (growslice_fits (by omega) (by rw [hby]; exact hbytes))
    have hge := grownCap_ge w (n + m) cap e
    have bel : Below w.heap.size w (w.drew.alloc (.cells (xs.toArray ++ news.toArray ++ Builtin.zeroCells z.cells (grownCap w (n + m) cap e - (n + m))) e)) := ((Below.refl _ _).drew).alloc (by simp) _
    refine ⟨_, _, _, hrun, ⟨by simp [hxn, hnl], fun _ => ⟨_, rfl, by simp, fun j u hu => ?_⟩⟩, only_of bel, old.below bel |>.more bel.size, hge⟩
    have hj : j < (xs ++ news).length := (List.getElem?_eq_some_iff.1 hu).1
    rw [Addr.add_mid, Nat.zero_add]
    refine ((Blk.new w.drew e _).cell j).trans ?_
    rw [Array.getElem?_append_left (by simpa using hj), ← hu]
    simp
theorem step_app1 {P : Program} {T E : TypeId} {bytes : Nat} {z : Value} (S : SliceTy P T E 1 bytes z) {ops : Array Oper} {o : Oper} {a : Act} {K : Act → World → Prop} {Q : Exit → Act → World → Prop} {X : Prop} {w : World} (hgd : o.guard = none) (s x : Operand)
    (ho : o.op = .call { callee := .builtin .append, args := #[s, x], argTypes := #[T, T] })
    (base g n cap : Nat) (xs : List Value) (hs : a.eval s = .slice (some ⟨g, 0, none⟩) n cap) (hown : w.ownsRow base E 1 (.slice (some ⟨g, 0, none⟩) n cap) n xs)
    (A : Option Addr) (m c : Nat) (news : List Value) (hx : a.eval x = .slice A m c) (hr : Reads w w.heap.size 1 A m news) (h1 : ∀ u ∈ news, u.oneCell' = true) (h63 : n + m ≤ 140737488355328) (hbytes : (n + m) * bytes ≤ 140737488355328)
    (h : ∀ A' c' w', Reads w' w'.heap.size 1 A' (n + m) (xs ++ news) → w.grownBy w' (some g) → Reads w' w'.heap.size 1 (some ⟨g, 0, none⟩) n xs → n + m ≤ c' → K (a.put o.dst (.slice A' (n + m) c')) w') :
    if Region.wanted o (yielded ops a.tmps) = true then Oper.wp P o a w K Q else X := by
  have hw : Region.wanted o (yielded ops a.tmps) = true := by simp [Region.wanted, hgd]
  rw [if_pos hw]
  obtain ⟨i, hi, hz0, hz1, hz2⟩ := info_parts S.hi
  obtain ⟨A', c', w', hrun, h2, h3, h4, h5⟩ := run_append_keeps (P := P) w base T o.type E i z bytes S.ht hi hz0 hz1 hz2 S.hz g n cap xs hown A m c news hr h1 h63 hbytes
  unfold Oper.wp execOp
  simp only [ho, resolve, invoke, builtin, Sem.run_bind, Sem.run_pure, Result.andThen_ok, List.map_toArray, List.map_cons, List.map_nil, hs, hx, hrun]
  exact h A' c' w' h2 h3 h4 h5
theorem own_set5 {w : World} {base gd : Nat} {e : TypeId} {size n : Nat} {v : Value} {xs : List Value} (h : w.ownsRow base e size v n xs) (hg : gd < base) (y0 y1 y2 y3 y4 : Value) :
    (((((w.setCell ⟨gd, 0, none⟩ y0).setCell ⟨gd, 1, none⟩ y1).setCell ⟨gd, 2, none⟩ y2).setCell ⟨gd, 3, none⟩ y3).setCell ⟨gd, 4, none⟩ y4).ownsRow base e size v n xs :=
  ownsRow_setCell_below (ownsRow_setCell_below (ownsRow_setCell_below (ownsRow_setCell_below (ownsRow_setCell_below h (a := ⟨gd, 0, none⟩) hg y0) (a := ⟨gd, 1, none⟩) hg y1) (a := ⟨gd, 2, none⟩) hg y2) (a := ⟨gd, 3, none⟩) hg y3) (a := ⟨gd, 4, none⟩) hg y4
theorem blk_set5 {w : World} {gd : Nat} (h : Blk w gd 37 zDc.toArray) (y0 y1 y2 y3 y4 : Value) :
    Blk (((((w.setCell ⟨gd, 0, none⟩ y0).setCell ⟨gd, 1, none⟩ y1).setCell ⟨gd, 2, none⟩ y2).setCell ⟨gd, 3, none⟩ y3).setCell ⟨gd, 4, none⟩ y4) gd 37 #[y0, y1, y2, y3, y4] :=
  ((((h.set_ 0 y0).set_ 1 y1).set_ 2 y2).set_ 3 y3).set_ 4 y4
-- all as it was but the row in block g, which still begins with its bytes; and a datagram's box
structure Sb (b : Nat) (W : World) (g : Nat) (fr to_ : Int) (cs : List Value) (le : List UInt8) (w : World) : Prop where
  only : W.grownBy w (some g)
  box : Blk w b 37 cs.toArray
  c0 : w.cell? ⟨b, 0, none⟩ = some (.int .u32 fr)
  c2 : w.cell? ⟨b, 2, none⟩ = some (.int .u32 to_)
  row : Bytes w (some ⟨g, 0, none⟩) le
  ne : b ≠ g
  bl : b < W.heap.size
  gl : g < W.heap.size
section
variable {b g : Nat} {W w w' : World} {fr to_ : Int} {cs : List Value} {le : List UInt8}
theorem Sb.nx (h : Sb b W g fr to_ cs le w) (k : Below w.heap.size w w') : Sb b W g fr to_ cs le w' :=
  ⟨only_nx h.only k, h.box.nx k, (k.cell (p := ⟨b, 0, none⟩) h.box.lt).trans h.c0, (k.cell (p := ⟨b, 2, none⟩) h.box.lt).trans h.c2, h.row.nx k, h.ne, h.bl, h.gl⟩
theorem Sb.al (h : Sb b W g fr to_ cs le w) (o : Obj) : Sb b W g fr to_ cs le (w.alloc o) := h.nx (Go.Proofs.Ytbhplleaokncpaa.al (rf w) o)
theorem Sb.drew (h : Sb b W g fr to_ cs le w) : Sb b W g fr to_ cs le w.drew := h.nx (rf w).drew
theorem Sb.app (h : Sb b W g fr to_ cs le w) (k : w.grownBy w' (some g)) (r : Reads w' w'.heap.size 1 (some ⟨g, 0, none⟩) le.length (Lib.byteCells le)) : Sb b W g fr to_ cs le w' :=
  ⟨only_trans h.only k, h.box.only k h.ne, (World.cell?_of_block (k.block b h.box.lt (by intro e; injection e with e; exact h.ne e))).trans h.c0, (World.cell?_of_block (k.block b h.box.lt (by intro e; injection e with e; exact h.ne e))).trans h.c2, r, h.ne, h.bl, h.gl⟩
theorem bytes_set {v : World} {A : Option Addr} {l : List UInt8} {p : Addr} (h : Bytes v A l) (hA : ∀ ad, A = some ad → ad.block ≠ p.block) (u : Value) : Bytes (v.setCell p u) A l :=
  bytes_only h (b := p.block) (only_setCell (World.grownBy.refl v _) (.inl rfl) u) hA
theorem Sb.set (h : Sb b W g fr to_ cs le w) {p : Addr} (hp : W.heap.size ≤ p.block) (v : Value) : Sb b W g fr to_ cs le (w.setCell p v) :=
  have n1 : b ≠ p.block := by have := h.bl; omega
  have hB := h.box.far n1 v
  have k : w.grownBy (w.setCell p v) (some p.block) := only_setCell (World.grownBy.refl w _) (.inl rfl) v
  ⟨only_setCell h.only (.inr hp) v, hB, (World.cell?_of_block (k.block b h.box.lt (by intro e; injection e with e; exact n1 e))).trans h.c0, (World.cell?_of_block (k.block b h.box.lt (by intro e; injection e with e; exact n1 e))).trans h.c2,
    bytes_set h.row (by rintro ad e; injection e with e; subst e; have := h.gl; show g ≠ _; omega) v, h.ne, h.bl, h.gl⟩
theorem Sb.set5 (h : Sb b W g fr to_ cs le w) {gd : Nat} (hp : W.heap.size ≤ gd) (y0 y1 y2 y3 y4 : Value) : Sb b W g fr to_ cs le (((((w.setCell ⟨gd, 0, none⟩ y0).setCell ⟨gd, 1, none⟩ y1).setCell ⟨gd, 2, none⟩ y2).setCell ⟨gd, 3, none⟩ y3).setCell ⟨gd, 4, none⟩ y4) :=
  ((((h.set (p := ⟨gd, 0, none⟩) hp y0).set (p := ⟨gd, 1, none⟩) hp y1).set (p := ⟨gd, 2, none⟩) hp y2).set (p := ⟨gd, 3, none⟩) hp y3).set (p := ⟨gd, 4, none⟩) hp y4
theorem Sb.s (h : Sb b W g fr to_ cs le w) : (w.cell? ⟨b, 0, none⟩ = some (.int .u32 fr) ∧ w.cell? ⟨b, 2, none⟩ = some (.int .u32 to_)) ∧ Sb b W g fr to_ cs le w := ⟨⟨h.c0, h.c2⟩, h⟩
end
def DecOk (fr frp to_ top : Int) (L l : List UInt8) : Prop := ∀ (A : Option Addr) (n c : Nat) (W : World), Bytes W A L → n = L.length → n ≤ c →
  Calls Try.prog 25 #[.int .u32 fr, .int .u32 to_, .slice A n c] W fun e w' => ∃ A' n' c', e = .returned (.tuple #[.agg #[.int .u32 fr, .int .i64 frp, .int .u32 to_, .int .i64 top, .slice A' n' c'], .int .i64 0]) ∧ IsRow W w' l (.slice A' n' c') ∧ Hid (n' = l.length)
def DecBad (fr to_ : Int) (L : List UInt8) : Prop := ∀ (A : Option Addr) (n c : Nat) (W : World), Bytes W A L → n = L.length → n ≤ c →
  Calls Try.prog 25 #[.int .u32 fr, .int .u32 to_, .slice A n c] W fun e w' => ∃ f g h i A' n' c', e = .returned (.tuple #[.agg #[.int .u32 f, .int .i64 g, .int .u32 h, .int .i64 i, .slice A' n' c'], .int .i64 4]) ∧ Below W.heap.size W w'
theorem dec_ok (a b : Nat) (frp top : Int) (l mo : List UInt8) (hk : okA a b) (p0 : 0 ≤ frp) (p1 : frp ≤ 65535) (q0 : 0 ≤ top) (q1 : top ≤ 65535) (hl : l.length ≤ 65507) (hm : mo.length ≤ 70000) : DecOk a frp b top (udpB frp top l (encS a frp b top l) ++ mo) l := by
  intro A n c W hb hn hc
  have ha : a ≤ 4294967295 := by have := hk.2.1; omega
  have hb4 : b ≤ 4294967295 := by have := hk.2.2.2; omega
  have hz := (enc_zero a b a b frp top l ha hb4 ha hb4 (by omega) (by omega) hl).2 rfl
  have hw := why_udp a b frp top l (encS a frp b top l) mo (by omega) (by omega) hl (encS_le _ _ _ _ _) (encS_ne _ _ _ _ _)
  rw [if_neg (by simp [hz])] at hw
  have hd := dD_udp a b frp top l (encS a frp b top l) mo (by omega) (by omega) hl (encS_le _ _ _ _ _) hw
  obtain ⟨a0, a2, _⟩ := at2_udp frp top l (encS a frp b top l) mo (by omega) (by omega) hl (encS_le _ _ _ _ _)
  have hlen := udpB_len frp top l (encS a frp b top l)
  have h := udd_all a b A _ n c W hk hb hn (by rw [← hn]; exact hc) (by rw [List.length_append, hlen]; omega)
  rw [(dF_ok hw).1, (dF_ok hw).1, (dF_ok hw).1, (dF_ok hw).1, hd, hw, a0, a2] at h
  refine h.mono ?_
  rintro e w' ⟨A', n', c', rfl, hr, hn'⟩
  rw [show ((frp.toNat : Nat) : Int) = frp by omega, show ((top.toNat : Nat) : Int) = top by omega]
  exact ⟨A', n', c', rfl, hr, hn'⟩
theorem dec_bad (a b u : Nat) (frp top : Int) (l : List UInt8) (hk : okA a b) (hu : okA u b) (p0 : 0 ≤ frp) (p1 : frp ≤ 65535) (q0 : 0 ≤ top) (q1 : top ≤ 65535) (hl : l.length ≤ 65507) (hne : words u % 65535 ≠ words a % 65535) : DecBad u b (udpB frp top l (encS a frp b top l)) := by
  intro A n c W hb hn hc
  have ha : a ≤ 4294967295 := by have := hk.2.1; omega
  have hb4 : b ≤ 4294967295 := by have := hk.2.2.2; omega
  have hu4 : u ≤ 4294967295 := by have := hu.2.1; omega
  have hz := enc_zero a b u b frp top l ha hb4 hu4 hb4 (by omega) (by omega) hl
  have hw := why_udp u b frp top l (encS a frp b top l) [] (by omega) (by omega) hl (encS_le _ _ _ _ _) (encS_ne _ _ _ _ _)
  rw [List.append_nil, if_pos (by intro h; have := hz.1 h; omega)] at hw
  have hlen := udpB_len frp top l (encS a frp b top l)
  have h := udd_all u b A _ n c W hu hb hn (by rw [← hn]; exact hc) (by rw [hlen]; omega)
  rw [hw] at h
  refine h.mono ?_
  rintro e w' ⟨A', n', c', rfl, hr, hn'⟩
  exact ⟨_, _, _, _, _, _, _, rfl, hr.2⟩
-- the low byte of an address turned
theorem xor_low (a : Nat) (y : Int) (ha : a ≤ 4294967295) (h0 : 0 < y) (h1 : y ≤ 255) : ∃ u : Nat, bits .xor .u32 (a : Int) y = (u : Int) ∧ u ≤ 4294967295 ∧ words u % 65535 ≠ words a % 65535 := by
  refine ⟨a ^^^ y.toNat, u32_xor _ _ (by omega) (by omega) (by omega) (by omega), ?_, ?_⟩
  · have : a ^^^ y.toNat < 2 ^ 32 := Nat.xor_lt_two_pow (by omega) (by omega)
    omega
  · obtain ⟨z, rfl⟩ : ∃ z : Nat, y = z := ⟨y.toNat, by omega⟩
    rw [Int.toNat_natCast]
    have hd : (a ^^^ z) / 256 = a / 256 := by
      have := Nat.xor_div_two_pow (a := a) (b := z) (n := 8)
      rw [show (2 : Nat) ^ 8 = 256 from rfl] at this
      rw [this, show z / 256 = 0 by omega, Nat.xor_zero]
    have hne : a ^^^ z ≠ a := by
      intro h
      have h3 : a ^^^ (a ^^^ z) = 0 := by rw [h]; exact Nat.xor_self _
      rw [← Nat.xor_assoc, Nat.xor_self, Nat.zero_xor] at h3
      omega
    generalize a ^^^ z = u at *
    unfold words
    omega
set_option maxHeartbeats 6400000 in
theorem udpBack_walk (fr frp to_ top : Int) (A : Option Addr) (l : List UInt8) (c : Nat) (B : Option Addr) (mo : List UInt8) (cm : Nat) (by_ : Int) (w : World) (hk : okA fr to_) (hb : Bytes w A l) (hm : Bytes w B mo) (hl : l.length ≤ 140737488355327) (hml : mo.length ≤ 140737488355327) (y0 : 0 ≤ by_) (y1 : by_ ≤ 255) :
    Calls Try.prog 10 #[.agg #[.int .u32 fr, .int .i64 frp, .int .u32 to_, .int .i64 top, .slice A l.length c], .slice B mo.length cm, .int .u8 by_] w fun e w' => e = .returned (.bool true) ∧ Below w.heap.size w w' := by
  obtain ⟨a, rfl⟩ : ∃ a : Nat, fr = a := ⟨fr.toNat, by have := hk.1; omega⟩
  obtain ⟨b, rfl⟩ : ∃ b : Nat, to_ = b := ⟨to_.toNat, by have := hk.2.2.1; omega⟩
  have ha : a ≤ 4294967295 := by have := hk.2.1; omega
  have hb4 : b ≤ 4294967295 := by have := hk.2.2.2; omega
  have HK := Lib.hid hk; clear hk
  obtain ⟨le, x, he⟩ : ∃ le x, encU a frp b top l = (le, x) := ⟨_, _, rfl⟩
  have HC := Lib.hid (encU_cases a frp b top l le x he)
  have HE := Lib.hid he; clear he
  have hli : (l.length : Int) ≤ 140737488355327 := by omega
  have hmi : (mo.length : Int) ≤ 140737488355327 := by omega
  by_cases h2 : 70000 < (l.length : Int) + (mo.length : Int)
  · go_enter Try.func10, Try.ntmps10
    go_wp2
    go_ret
    exact ⟨rfl, al (rf w) _⟩
  · have B0 := Blk.new w 37 #[.int .u32 a, .int .i64 frp, .int .u32 b, .int .i64 top, .slice A l.length c]
    rcases HC.out with ⟨hx, rfl⟩ | ⟨rfl, p0, p1, q0, q1, hl2, hle⟩
    · have hx1 : ((x : Int) != 0) = true := by rw [bne_iff_ne]; exact hx
      clear hx HC
      go_enter Try.func10, Try.ntmps10
      go_wp2_with (refine wpList_load_row rfl 37 (.tmp 3) rfl _ rfl _ _ _ _ B0 Try.underlying37 rfl (by kernel_rfl) ?_)
      refine (udpEnc_any a frp b top _ l [] _ _ x _ HK.out (hb.al _) rfl (by omega) HE).mono ?_
      rintro e w1 ⟨v1, rfl, hr⟩
      obtain ⟨A1, n1, c1, rfl, hn1⟩ := hr.slice
      obtain rfl : n1 = 0 := hn1.out
      go_wp2_with fail
      refine (known _).mono ?_
      rintro e w8 ⟨rfl, hb8⟩
      go_wp2
      go_ret
      exact ⟨rfl, nx (nx (al (rf w) _) hr.2) hb8⟩
    · have hn : le.length = 8 + l.length := by rw [hle, udpB_len]
      obtain ⟨by1, hy, y2, y3⟩ : ∃ y : Int, Hid ((by_ = 0 ∧ y = 1) ∨ (by_ ≠ 0 ∧ y = by_)) ∧ 0 < y ∧ y ≤ 255 := by
        by_cases h : by_ = 0
        · exact ⟨1, .inl ⟨h, rfl⟩, by omega, by omega⟩
        · exact ⟨by_, .inr ⟨h, rfl⟩, by omega, by omega⟩
      obtain ⟨u, hux, hu4, hun⟩ := xor_low a by1 ha y2 y3
      have D1 : Hid (DecOk a frp b top (le ++ mo) l) := by show DecOk _ _ _ _ _ _; rw [hle]; exact dec_ok a b frp top l mo HK.out p0 p1 q0 q1 hl2 (by omega)
      have D2 : Hid (DecBad u b le) := by show DecBad _ _ _; rw [hle]; exact dec_bad a b u frp top l HK.out ⟨by omega, by omega, by omega, by omega⟩ p0 p1 q0 q1 hl2 hun
      have HUX := Lib.hid hux
      have HLE := Lib.hid hle
      clear hle HC hux hun
      have n9 : le.length + mo.length ≤ 80000 := by omega
      have n8 : 0 < le.length := by omega
      clear hn
      go_enter Try.func10, Try.ntmps10
      go_wp2_with (refine wpList_load_row rfl 37 (.tmp 3) rfl _ rfl _ _ _ _ B0 Try.underlying37 rfl (by kernel_rfl) ?_)
      refine (udpEnc_any a frp b top _ l le _ _ 0 _ HK.out (hb.al _) rfl (by omega) HE).mono ?_
      rintro e w1 ⟨v1, rfl, hr1⟩
      obtain ⟨g, cap, rfl, hg, hg2, hcap, hcm, cur, BG, hcs, hct⟩ := own_form hr1.1 n8
      have O1 := Lib.hid hr1.1
      have BW1 := Lib.hid (nx (al (rf w) _) hr1.2)
      have B1 := B0.nx hr1.2
      simp at hg
      have SB : Sb w.heap.size w1 g a b [.int .u32 a, .int .i64 frp, .int .u32 b, .int .i64 top, .slice A l.length c] le w1 :=
        ⟨World.grownBy.refl w1 _, B1, B1.cell 0, B1.cell 2, (own_bytes O1.out).2, by omega, B1.lt, hg2⟩
      have HM : Hid (∀ W', w1.grownBy W' (some g) → Bytes W' B mo) := fun W' k => by
        rcases Nat.eq_zero_or_pos mo.length with h0 | h0
        · obtain rfl : mo = [] := List.eq_nil_of_length_eq_zero h0
          exact Bytes.nil _ _
        · refine bytes_only (hm.nx BW1.out) k (fun ad hA => ?_)
          obtain ⟨ad', h1, h3, _⟩ := hm.at_ h0
          rw [hA] at h1; injection h1 with h1; subst h1; omega
      clear BG hcs hct hr1 B1 B0
      go_wp2
      have tok1 : True := trivial
      go_region_held3 (fun w' => (w'.cell? ⟨w.heap.size, 0, none⟩ = some (.int .u32 a) ∧ w'.cell? ⟨w.heap.size, 2, none⟩ = some (.int .u32 b)) ∧ Sb w.heap.size w1 g a b [.int .u32 a, .int .i64 frp, .int .u32 b, .int .i64 top, .slice A l.length c] le w')
        ((refine Sb.s ?_; with_reducible (first | exact And.right (by assumption) | exact SB.drew | exact Sb.al (And.right (by assumption)) _ | exact Sb.drew (And.right (by assumption)) | exact Sb.app (And.right (by assumption)) gr4 K4 | exact Sb.nx (And.right (by assumption)) b5 | exact Sb.set5 S5 (by first | exact Nat.le_refl _ | omega) _ _ _ _ _ | exact Sb.al S5 _ | exact Sb.drew (Sb.al SB _) | exact Sb.al (Sb.drew SB) _ | fail)))
        (first
          | (have _t := tok1; refine step_app1 stB rfl (.tmp 38) (.tmp 39) rfl _ g le.length cap _ rfl (by first | exact own_nx O1.out (rf w1).drew | exact own_nx O1.out (al (rf w1) _).drew | exact own_nx O1.out (al (rf w1).drew _)) B mo.length cm (Lib.byteCells mo) rfl (by exact HM.out _ (Sb.only (And.right (by assumption)))) (one_u8 _) (by omega) (by omega) ?_
             intro A4 c4 w4 R4 gr4 K4 hc4; clear tok1 _t; have tok2 : True := trivial; have z4 := gr4.size; (try simp at z4); have by4 : Bytes w4 A4 (le ++ mo) := (by unfold Bytes; rw [List.length_append, byteCells_app]; exact R4))
          | (go_at_call 25; have _t := tok2; refine (D1.out A4 _ c4 _ (by first | exact by4 | exact by4.al _) List.length_append.symm (by omega)).mono ?_; rintro e w5 ⟨A5, n5, c5, rfl, ⟨o5, b5⟩, hn5⟩; rw [← hn5.out] at o5; clear tok2 _t; have S5 : Sb w.heap.size w1 g a b [.int .u32 a, .int .i64 frp, .int .u32 b, .int .i64 top, .slice A l.length c] le w5 := Sb.nx (And.right (by assumption)) b5; (first | (have BG5 : Blk w5 w1.heap.size 37 zDc.toArray := (Blk.only (show Blk (w1.alloc (.cells zDc.toArray 37)).drew w1.heap.size 37 zDc.toArray from Blk.new w1 _ _) gr4 (by omega)).nx b5; have d0 := BG5.cell 0; have d1 := BG5.cell 1; have d2 := BG5.cell 2; have d3 := BG5.cell 3; have d4 := BG5.cell 4; simp only [zDc, List.getElem?_toArray, List.getElem?_cons_succ, List.getElem?_cons_zero] at d0 d1 d2 d3 d4; have e0 := BG5.frozen 0; have e1 := BG5.frozen 1; have e2 := BG5.frozen 2; have e3 := BG5.frozen 3; have e4 := BG5.frozen 4) | (have BG5 : Blk w5 w1.heap.size 37 zDc.toArray := (Blk.only (show Blk (w1.drew.alloc (.cells zDc.toArray 37)) w1.heap.size 37 zDc.toArray from Blk.new w1.drew _ _) gr4 (by omega)).nx b5; have d0 := BG5.cell 0; have d1 := BG5.cell 1; have d2 := BG5.cell 2; have d3 := BG5.cell 3; have d4 := BG5.cell 4; simp only [zDc, List.getElem?_toArray, List.getElem?_cons_succ, List.getElem?_cons_zero] at d0 d1 d2 d3 d4; have e0 := BG5.frozen 0; have e1 := BG5.frozen 1; have e2 := BG5.frozen 2; have e3 := BG5.frozen 3; have e4 := BG5.frozen 4) | (have BG5 : Blk w5 w4.heap.size 37 zDc.toArray := (Blk.new w4 37 zDc.toArray).nx b5; have d0 := BG5.cell 0; have d1 := BG5.cell 1; have d2 := BG5.cell 2; have d3 := BG5.cell 3; have d4 := BG5.cell 4; simp only [zDc, List.getElem?_toArray, List.getElem?_cons_succ, List.getElem?_cons_zero] at d0 d1 d2 d3 d4; have e0 := BG5.frozen 0; have e1 := BG5.frozen 1; have e2 := BG5.frozen 2; have e3 := BG5.frozen 3; have e4 := BG5.frozen 4) | skip))
          | fail)
      all_goals
        (first
          | (show Exit.then _ _ _ _ (w5.alloc (.cells #[.int .u32 a, .int .i64 frp, .int .u32 b, .int .i64 top, .slice A5 n5 c5] 37))
             have BF : Blk (w5.alloc (.cells #[.int .u32 a, .int .i64 frp, .int .u32 b, .int .i64 top, .slice A5 n5 c5] 37)) w5.heap.size 37 #[.int .u32 a, .int .i64 frp, .int .u32 b, .int .i64 top, .slice A5 n5 c5] := Blk.new _ _ _
             have SF := S5.al (.cells #[.int .u32 a, .int .i64 frp, .int .u32 b, .int .i64 top, .slice A5 n5 c5] 37)
             have EF := (own_bytes (o5.alloc (.cells #[.int .u32 a, .int .i64 frp, .int .u32 b, .int .i64 top, .slice A5 n5 c5] 37))).2
             clear S5 o5 R4 K4 by4
             generalize (w5.alloc (.cells #[.int .u32 a, .int .i64 frp, .int .u32 b, .int .i64 top, .slice A5 n5 c5] 37)) = W6 at BF SF EF ⊢
             generalize w5.heap.size = gd at BF ⊢)
          | (show Exit.then _ _ _ _ (((((w5.setCell ⟨w4.heap.size, 0, none⟩ (.int .u32 a)).setCell ⟨w4.heap.size, 1, none⟩ (.int .i64 frp)).setCell ⟨w4.heap.size, 2, none⟩ (.int .u32 b)).setCell ⟨w4.heap.size, 3, none⟩ (.int .i64 top)).setCell ⟨w4.heap.size, 4, none⟩ (.slice A5 n5 c5))
             have BF : Blk (((((w5.setCell ⟨w4.heap.size, 0, none⟩ (.int .u32 a)).setCell ⟨w4.heap.size, 1, none⟩ (.int .i64 frp)).setCell ⟨w4.heap.size, 2, none⟩ (.int .u32 b)).setCell ⟨w4.heap.size, 3, none⟩ (.int .i64 top)).setCell ⟨w4.heap.size, 4, none⟩ (.slice A5 n5 c5)) w4.heap.size 37 #[.int .u32 a, .int .i64 frp, .int .u32 b, .int .i64 top, .slice A5 n5 c5] := blk_set5 BG5 _ _ _ _ _
             have SF := S5.set5 (gd := w4.heap.size) (by first | exact Nat.le_refl _ | omega) (.int .u32 a) (.int .i64 frp) (.int .u32 b) (.int .i64 top) (.slice A5 n5 c5)
             have EF := (own_bytes (own_set5 (gd := w4.heap.size) o5 (by first | omega | (simp; omega) | (simp; done)) (.int .u32 a) (.int .i64 frp) (.int .u32 b) (.int .i64 top) (.slice A5 n5 c5))).2
             clear BG5 d0 d1 d2 d3 d4 e0 e1 e2 e3 e4 S5 o5 R4 K4 by4
             generalize (((((w5.setCell ⟨w4.heap.size, 0, none⟩ (.int .u32 a)).setCell ⟨w4.heap.size, 1, none⟩ (.int .i64 frp)).setCell ⟨w4.heap.size, 2, none⟩ (.int .u32 b)).setCell ⟨w4.heap.size, 3, none⟩ (.int .i64 top)).setCell ⟨w4.heap.size, 4, none⟩ (.slice A5 n5 c5)) = W6 at BF SF EF ⊢
             generalize w4.heap.size = gd at BF ⊢)
          | (show Exit.then _ _ _ _ (((((w5.setCell ⟨w1.heap.size, 0, none⟩ (.int .u32 a)).setCell ⟨w1.heap.size, 1, none⟩ (.int .i64 frp)).setCell ⟨w1.heap.size, 2, none⟩ (.int .u32 b)).setCell ⟨w1.heap.size, 3, none⟩ (.int .i64 top)).setCell ⟨w1.heap.size, 4, none⟩ (.slice A5 n5 c5))
             have BF : Blk (((((w5.setCell ⟨w1.heap.size, 0, none⟩ (.int .u32 a)).setCell ⟨w1.heap.size, 1, none⟩ (.int .i64 frp)).setCell ⟨w1.heap.size, 2, none⟩ (.int .u32 b)).setCell ⟨w1.heap.size, 3, none⟩ (.int .i64 top)).setCell ⟨w1.heap.size, 4, none⟩ (.slice A5 n5 c5)) w1.heap.size 37 #[.int .u32 a, .int .i64 frp, .int .u32 b, .int .i64 top, .slice A5 n5 c5] := blk_set5 BG5 _ _ _ _ _
             have SF := S5.set5 (gd := w1.heap.size) (by first | exact Nat.le_refl _ | omega) (.int .u32 a) (.int .i64 frp) (.int .u32 b) (.int .i64 top) (.slice A5 n5 c5)
             have EF := (own_bytes (own_set5 (gd := w1.heap.size) o5 (by first | omega | (simp; omega) | (simp; done)) (.int .u32 a) (.int .i64 frp) (.int .u32 b) (.int .i64 top) (.slice A5 n5 c5))).2
             clear BG5 d0 d1 d2 d3 d4 e0 e1 e2 e3 e4 S5 o5 R4 K4 by4
             generalize (((((w5.setCell ⟨w1.heap.size, 0, none⟩ (.int .u32 a)).setCell ⟨w1.heap.size, 1, none⟩ (.int .i64 frp)).setCell ⟨w1.heap.size, 2, none⟩ (.int .u32 b)).setCell ⟨w1.heap.size, 3, none⟩ (.int .i64 top)).setCell ⟨w1.heap.size, 4, none⟩ (.slice A5 n5 c5)) = W6 at BF SF EF ⊢
             generalize w1.heap.size = gd at BF ⊢)
          | fail)
      all_goals
        have BW6 := Lib.hid (BW1.out.trans (below_only SF.only (by omega) BW1.out.size))
        have q0' : W6.cell? ⟨w.heap.size, 0, none⟩ = some (.int .u32 a) := SF.box.cell 0
        have q1' : W6.cell? ⟨w.heap.size, 1, none⟩ = some (.int .i64 frp) := SF.box.cell 1
        have q2' : W6.cell? ⟨w.heap.size, 2, none⟩ = some (.int .u32 b) := SF.box.cell 2
        have q3' : W6.cell? ⟨w.heap.size, 3, none⟩ = some (.int .i64 top) := SF.box.cell 3
        have q4' : W6.cell? ⟨w.heap.size, 4, none⟩ = some (.slice A l.length c) := SF.box.cell 4
        have r0' : W6.cell? ⟨gd, 0, none⟩ = some (.int .u32 a) := BF.cell 0
        have r1' : W6.cell? ⟨gd, 1, none⟩ = some (.int .i64 frp) := BF.cell 1
        have r2' : W6.cell? ⟨gd, 2, none⟩ = some (.int .u32 b) := BF.cell 2
        have r3' : W6.cell? ⟨gd, 3, none⟩ = some (.int .i64 top) := BF.cell 3
        have r4' : W6.cell? ⟨gd, 4, none⟩ = some (.slice A5 n5 c5) := BF.cell 4
        have hbl := Lib.hid (hb.nx BW6.out)
        have HSF := Lib.hid SF
        clear SF BF SB
        go_wp2_with fail
        refine (grams_same a frp b top _ A5 A l n5 _ c5 c (by exact EF) (by exact hbl.out) hn5.out rfl (by omega)).mono ?_
        rintro e w7 ⟨rfl, hb7⟩
        have SF7 := HSF.out.nx hb7
        have BW7 := Lib.hid (nx BW6.out hb7)
        have k0 := SF7.c0
        have k2 := SF7.c2
        have RW := Lib.hid SF7.row
        clear SF7 hb7 q0' q1' q2' q3' q4' r0' r1' r2' r3' r4' EF
        have hux := HUX.out
        rcases hy.out with ⟨rfl, rfl⟩ | ⟨hby, rfl⟩
        · clear hy HUX
          go_wp2_with fail
          refine (D2.out (some ⟨g, 0, none⟩) le.length cap _ RW.out rfl hcap).mono ?_
          rintro e w8 ⟨f1, f2, f3, f4, A8, n8', c8, rfl, b8⟩
          go_wp2_with fail
          refine (known _).mono ?_
          rintro e w9 ⟨rfl, hb9⟩
          go_wp2
          go_ret
          exact ⟨rfl, nx (al (nx BW7.out b8) _) hb9⟩
        · have hbb : ((by1 : Int) == 0) = false := by rw [beq_eq_false_iff_ne]; exact hby
          clear hy HUX
          go_wp2_with fail
          refine (D2.out (some ⟨g, 0, none⟩) le.length cap _ RW.out rfl hcap).mono ?_
          rintro e w8 ⟨f1, f2, f3, f4, A8, n8', c8, rfl, b8⟩
          go_wp2_with fail
          refine (known _).mono ?_
          rintro e w9 ⟨rfl, hb9⟩
          go_wp2
          go_ret
          exact ⟨rfl, nx (al (nx BW7.out b8) _) hb9⟩
theorem udpBack_lifted (os : Os) (started : os.Started) (H : Type) (enc : TypeId × Value → H) :
    ReturnsInHanded {} Try.checked os 10 .any (Rows.uDPBackSpec.pre6 enc Try.prog Try.f10 Rows.uDPBackRow.domain false) (Rows.uDPBackSpec.post enc Try.prog Try.f10 false true false false) :=
  law_lift started (by kernel_rfl) Try.func10
    (ChangeSpec.witness6 (enc := enc) (C := Try.checked) false ⟨#[], #[.agg #[.int .u32 0, .int .i64 0, .int .u32 0, .int .i64 0, .slice none 0 0], .slice none 0 0, .int .u8 0], []⟩ 8 (by kernel_rfl) (by kernel_rfl) (by kernel_rfl) (by kernel_rfl))
    rfl rfl Try.underlying4 (by kernel_rfl) (fun ds h => match ds, h with | [_, _, _], _ => rfl)
    (fun W base args ds p hval hA hsz => by
      rw [Try.params10] at hA hval
      have hsz' := hsz
      rw [Try.params10] at hsz'
      obtain ⟨v0, v1, v2, d0, d1, d2, p0, p1, p2, rfl, rfl, rfl, h0, h1, h2⟩ := trodAll_three hA
      obtain ⟨fr, frp, to_, top, A, l, c, rfl, hk, hb, hl, hw⟩ := open_dgram3 (hval 0 37 v0 rfl rfl) h0
      obtain ⟨B, mo, cm, rfl, hm, _, _, hd⟩ := open_bytes3 (hval 1 35 v1 rfl rfl) h1
      obtain ⟨n2, rfl, a2, a3⟩ := open_byte (hval 2 5 v2 rfl rfl) h2
      exact udpBack_walk fr frp to_ top A l c B mo cm n2 W hk hb hm (hw _ _ 0 hsz' rfl rfl) (datL_le hsz' (j := 1) rfl rfl hd) a2 a3)
theorem udpBack_holds : Rows.UDPBackSaid :=
  OpenClaim.holds_of_wide 10 Try.f10 rfl rfl rfl rfl rfl rfl rfl ⟨rfl, rfl, rfl, rfl, rfl⟩ rfl rfl rfl rfl rfl (by kernel_rfl) Try.func10 (by kernel_rfl)
    (of_decide_eq_true (by kernel_rfl)) (by unfold Func.isWrapper; rw [if_neg (of_decide_eq_false (by kernel_rfl))]; exact ⟨rfl, rfl⟩)
    (fun os started H enc _ => udpBack_lifted os started H enc)
end Go.Proofs.Ytbhplleaokncpaa
