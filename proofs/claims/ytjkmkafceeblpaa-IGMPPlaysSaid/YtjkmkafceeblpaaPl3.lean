/-
  IGMPPlays: of every script each answer, and the groups; the law returns true for every input.
-/
import Derived.Test.YtjkmkafceeblpaaPl2
import Derived.Test.YtjkmkafceeblpaaOpn
import Derived.Test.YtjkmkafceeblpaaLaw
import Derived.Test.YtjkmkafceeblpaaIg2
import Derived.Test.YtjkmkafceeblpaaIgA
set_option linter.unusedVariables false
namespace Go.Proofs.Ytjkmkafceeblpaa
open Go.ChangeShapes Go.WideShapes Go.ChangeAt Go.RowKit

structure Sp where
  (kind g ty mx gm draw by_ : Int)
def Sp.cs (s : Sp) : List Value := [.int .i64 s.kind, .int .u32 s.g, .int .i64 s.ty, .int .i64 s.mx, .int .u32 s.gm, .int .i64 s.draw, .int .i64 s.by_]
def Sp.ok (s : Sp) : Prop := (0 ≤ s.g ∧ s.g ≤ 4294967295) ∧ (0 ≤ s.gm ∧ s.gm ≤ 4294967295) ∧ (-9223372036854775808 ≤ s.draw ∧ s.draw ≤ 9223372036854775807)
set_option maxRecDepth 100000
theorem trod_sp {H : Type} {enc : TypeId × Value → H} {w : World} {base : Nat} {sp : Nat → Bool} {held : Bool} {fuel : Nat} {cs : List Value} {x : DataW H × List MemPlace}
    (hsz : cs.length = 7) (hf : DataW.trod enc Try.prog w base sp held fuel 61 cs = some x) : ∃ s : Sp, cs = s.cs ∧ s.ok := by
  have hk := leaves_of (F := 6) (N := 7) (ks := [.int .i64, .int .u32, .int .i64, .int .i64, .int .u32, .int .i64, .int .i64]) hf (by kernel_rfl)
  match cs, hsz with
  | [x0, x1, x2, x3, x4, x5, x6], _ =>
    obtain ⟨v0, e0, a0, h0, _⟩ := hk 0 _ rfl
    obtain rfl : x0 = v0 := by injection e0
    subst h0
    obtain ⟨v1, e1, a1, h1, w1⟩ := hk 1 _ rfl
    obtain rfl : x1 = v1 := by injection e1
    subst h1
    obtain ⟨v2, e2, a2, h2, _⟩ := hk 2 _ rfl
    obtain rfl : x2 = v2 := by injection e2
    subst h2
    obtain ⟨v3, e3, a3, h3, _⟩ := hk 3 _ rfl
    obtain rfl : x3 = v3 := by injection e3
    subst h3
    obtain ⟨v4, e4, a4, h4, w4⟩ := hk 4 _ rfl
    obtain rfl : x4 = v4 := by injection e4
    subst h4
    obtain ⟨v5, e5, a5, h5, w5⟩ := hk 5 _ rfl
    obtain rfl : x5 = v5 := by injection e5
    subst h5
    obtain ⟨v6, e6, a6, h6, _⟩ := hk 6 _ rfl
    obtain rfl : x6 = v6 := by injection e6
    subst h6
    exact ⟨⟨a0, a1, a2, a3, a4, a5, a6⟩, rfl, wf_u32 w1, wf_u32 w4, wf_i64 w5⟩
theorem open_sp {H : Type} {enc : TypeId × Value → H} {w : World} {base b0 : Nat} {r : Reach} {sp : Nat → Bool} {held : Bool} {v : Value} {d : DataW H} {p : List MemPlace}
    (hv : Value.okWide Try.prog w r b0 55 v) (h : DataW.Trod enc Try.prog w base sp held 55 v d p) :
    ∃ (A : Option Addr) (n c : Nat) (l : List (List Value)), v = .slice A n c ∧ n ≤ c ∧ c ≤ maxLen ∧ RowsAt w w.heap.size 7 A n l ∧ ∀ r ∈ l, ∃ s : Sp, r = s.cs ∧ s.ok :=
  open_rows Try.underlying55 (by kernel_rfl) (by decide) hv h (fun cs => ∃ s : Sp, cs = s.cs ∧ s.ok) (fun _ cs _ hl hx => trod_sp hl hx)
theorem bt_new (w : World) : Bt ((w.alloc (.cells #[.slice none 0 0] 40)).alloc (.cells #[.slice none 0 0] 59)) w.heap.size w.heap.size (w.heap.size + 1) [] := by
  refine ⟨.slice none 0 0, [], .slice none 0 0, [], ?_, ⟨?_, World.ownsRow_nil _ _ _ _, by omega⟩, rfl, ?_, by decide⟩
  · exact IsHg.nx (w := w.alloc (.cells #[.slice none 0 0] 40)) ⟨Blk.new _ _ _, World.ownsRow_nil _ _ _ _, ⟨rfl, fun i r m hr => by simp at hr⟩, Nat.le_refl _⟩ (al (rf _) _)
  · have := Blk.new (w.alloc (.cells #[.slice none 0 0] 40)) 59 #[.slice none 0 0]
    simpa using this
  · intro s t x y hx
    simp [keysG] at hx
-- what a round's groups hold does not matter to the Host
def Zr (w : World) (base : Nat) (A : Option Addr) (q c : Nat) : Prop := ∃ xs, w.ownsRow base 25 1 (.slice A q c) q xs ∧ xs.length = q
theorem Zr.cell {w : World} {base q c k : Nat} {A : Option Addr} (h : Zr w base A q c) (hk : k < q) : ∃ g u, A = some ⟨g, 0, none⟩ ∧ w.cell? ⟨g, k, none⟩ = some u ∧ w.frozen? ⟨g, k, none⟩ = false := by
  obtain ⟨xs, h1, h2⟩ := h
  obtain ⟨u, hu⟩ : ∃ u, xs[k]? = some u := ⟨_, List.getElem?_eq_getElem (by omega)⟩
  obtain ⟨g, hA, hc⟩ := own_at h1 hu (by omega)
  subst hA
  refine ⟨g, u, rfl, hc, ?_⟩
  rcases h1.2 with ⟨h3, _⟩ | ⟨g', _, cur, h3, _, hg, _⟩
  · injection h3 with h3; cases h3
  · injection h3 with h3; injection h3 with h3; injection h3 with h3; subst h3; exact Blk.frozen hg k
theorem Zr.set {w : World} {base g q c k : Nat} (h : Zr w base (some ⟨g, 0, none⟩) q c) (hk : k < q) (u : Value) {B0 : Nat} (hb : B0 ≤ base) (hw : base ≤ w.heap.size) :
    Zr (w.setCell ⟨g, k, none⟩ u) base (some ⟨g, 0, none⟩) q c ∧ Below B0 w (w.setCell ⟨g, k, none⟩ u) ∧ ∀ {B h r : Nat} {gs : List Gm}, Bt w B h r gs → Bt (w.setCell ⟨g, k, none⟩ u) B h r gs := by
  obtain ⟨xs, h1, h2⟩ := h
  have hn : ∃ cur, Blk w g 25 cur ∧ base ≤ g := by
    rcases h1.2 with ⟨h3, _⟩ | ⟨g', _, cur, h3, hb, hg, _⟩
    · injection h3 with h3; cases h3
    · injection h3 with h3; injection h3 with h3; injection h3 with h3; subst h3; exact ⟨_, hg, hb⟩
  obtain ⟨cur, hg, hbg⟩ := hn
  have kk : KeepT w.heap.size [25] w (w.setCell ⟨g, k, none⟩ u) := KeepT.of_set hg u (.inr (by simp)) (Nat.le_refl _)
  refine ⟨⟨_, (World.ownsRow.stored h1 k u).1, by rw [List.length_set]; exact h2⟩, (Below.refl B0 w).setCell (p := ⟨g, k, none⟩) (by show B0 ≤ g; omega) u, fun o => ?_⟩
  obtain ⟨v, ws, v2, ms, o1, o2, o3⟩ := o
  exact ⟨v, ws, v2, ms, o1.keep kk (by decide) (by decide) (by decide), o2.keep kk (by decide) (by decide), o3⟩
set_option maxHeartbeats 3200000 in
theorem iGMPPlays_walk (A : Option Addr) (n c : Nat) (l : List (List Value)) (w : World) (hn : n ≤ c) (hm : c ≤ maxLen) (hA : RowsAt w w.heap.size 7 A n l) (hl : ∀ r ∈ l, ∃ s : Sp, r = s.cs ∧ s.ok) :
    Calls Try.prog 7 #[.slice A n c] w fun e w' => e = .returned (.bool true) ∧ Below w.heap.size w w' := by
  unfold maxLen at hm
  have HA := Lib.hid hA
  have HL := Lib.hid hl
  have H0 := Lib.hid (bt_new w)
  have B0 : Hid (Below w.heap.size w ((w.alloc (.cells #[.slice none 0 0] 40)).alloc (.cells #[.slice none 0 0] 59))) := al (al (rf w) _) _
  clear hA hl
  go_enter Try.func7, Try.ntmps7
  go_wp2
  go_loopw [5, 6] (fun tv iv wr => ∃ (now : Int) (i : Nat) (gs : List Gm), tv = .int .i64 now ∧ iv = .int .i64 i ∧ i ≤ 200 ∧ i ≤ n ∧ 0 ≤ now ∧ now ≤ i * 1073741824 ∧ Hid (Bt wr w.heap.size w.heap.size (w.heap.size + 1) gs) ∧ Hid (Below w.heap.size w wr)) (fun _ iv _ => n - (intOf iv).toNat)
  case atStart => exact ⟨0, 0, [], rfl, rfl, by decide, by omega, by omega, by omega, H0.out, B0.out⟩
  case round =>
    obtain ⟨now, i, gs, rfl, rfl, hi, hin, hw0, hw1, HP, HB⟩ := hrel
    by_cases hlt : i < n
    rotate_left
    · go_wp2_with fail
      refine (known _).mono ?_
      rintro e w9 ⟨rfl, hb9⟩
      go_wp2
      go_ret
      exact ⟨rfl, nx HB.out hb9⟩
    by_cases h200 : i < 200
    rotate_left
    · go_wp2_with fail
      refine (known _).mono ?_
      rintro e w9 ⟨rfl, hb9⟩
      go_wp2
      go_ret
      exact ⟨rfl, nx HB.out hb9⟩
    obtain ⟨ad, rr, hA, hadB, hr, hlen, hcell⟩ := (HA.out.below HB.out).row hlt
    obtain rfl := hA
    obtain ⟨s, rfl, hok⟩ := HL.out rr (List.mem_of_getElem? hr)
    obtain ⟨⟨a0, a1⟩, ⟨g0, g1⟩, ⟨d0, d1⟩⟩ := hok
    obtain ⟨y, hy⟩ : ∃ y, min s.by_ 1073741824 = y := ⟨_, rfl⟩
    obtain ⟨z, hz⟩ : ∃ z, max 0 y = z := ⟨_, rfl⟩
    have z1 : y ≤ 1073741824 := by omega
    have z2 : 0 ≤ z ∧ z ≤ 1073741824 := by omega
    have z3 := z2.1
    have z4 := z2.2
    clear z1 z2
    have hby : wr.cell? ⟨(ad.add (i * 7)).block, (ad.add (i * 7)).off + 6, none⟩ = some (.int .i64 s.by_) := hcell 6 _ rfl
    have i0 : (0 : Int) ≤ i := by omega
    have i1 : (i : Int) < n := by omega
    have i2 : (i : Int) < 200 := by omega
    have hz0 := HB.out.size
    obtain ⟨v1, ws1, v2, ms, o1, o2, o3, o4, o5⟩ := HP.out
    have GK := Lib.hid (groupsK wr o1 o5)
    have HSZ : Hid ((Try.prog.info? 61).map (·.size) = some s.cs.length) := by show _ = some 7; kernel_rfl
    have HCELL := Lib.hid hcell
    clear hcell hr hlen o1 o2 o3 o4 o5
    have HY := Lib.hid hadB
    clear hadB
    go_wp2_with fail
    refine GK.out.mono ?_
    rintro e w1 ⟨V, rfl, ov, b1⟩
    obtain ⟨q, hq⟩ : ∃ q, (keysG gs).length = q := ⟨_, rfl⟩
    have ov' : w1.ownsRow wr.heap.size 25 1 V (keysG gs).length (addrC (keysG gs)) := ov
    rw [hq] at ov'
    obtain ⟨VA, vc, rfl⟩ := own_slice (size := 1) ov'
    have hx : (addrC (keysG gs)).length = q := by unfold addrC; rw [List.length_map, hq]
    have hq16 : q ≤ 16 := by
      obtain ⟨_, _, _, _, _, _, _, _, o5⟩ := HP.out
      rw [← hq]
      unfold keysG
      rw [List.length_map]
      exact o5
    have OV := Lib.hid ov'
    have HX := Lib.hid hx
    have P1 := Lib.hid (HP.out.nx b1)
    have B1 := Lib.hid (nx HB.out b1)
    have C1 : Hid (∀ (j : Nat) (u : Value), s.cs[j]? = some u → w1.cell? ((ad.add (i * 7)).add j) = some u) := fun j u hj => by
      have h1 := HCELL.out j u hj
      rw [← h1]
      refine b1.cell ?_
      rw [block_of_add, block_of_add]
      have := HY.out
      omega
    have hz1 := b1.size
    have hc0 : 0 ≤ now + z := by omega
    have hc1 : now + z ≤ (i + 1) * 1073741824 := by omega
    have hc2 : now + z ≤ 1000000000000 := by omega
    clear ov ov' hx hq b1 hby HP HCELL
    go_wp2_with (with_reducible refine wpList_load_any rfl 61 (.tmp 38) rfl (ad.add (i * 7)) (by kernel_rfl) s.cs _ C1.out Try.underlying61 (by kernel_rfl) HSZ.out ?_)
    refine (doesK w1 P1.out s.kind s.g s.ty s.mx s.gm s.draw s.by_ (now + z) a0 a1 g0 g1 hc0 hc2 d1 d0 (by omega)).mono ?_
    rintro e w2 ⟨gs2, rfl, p2, b2, k2⟩
    have P2 := Lib.hid p2
    obtain ⟨b0, hb0⟩ : ∃ b0, wr.heap.size = b0 := ⟨_, rfl⟩
    have Z2 : Hid (Zr w2 b0 VA q vc) := by rw [← hb0]; exact ⟨_, k2.own OV.out (by decide), HX.out⟩
    have hb1 : w.heap.size ≤ b0 := by omega
    have B2 := Lib.hid (B1.out.trans b2)
    have hz2 : b0 ≤ w2.heap.size := by have := b2.size; omega
    clear hb0
    clear p2 b2 k2 OV HX P1 B1 C1 HSZ a0 a1 g0 g1 d0 d1
    go_wp2
    go_loopw [8] (fun kv wq => ∃ k : Nat, kv = .int .i64 k ∧ k ≤ q ∧ Hid (Bt wq w.heap.size w.heap.size (w.heap.size + 1) gs2) ∧ Hid (Zr wq b0 VA q vc) ∧ Hid (Below w.heap.size w wq) ∧ b0 ≤ wq.heap.size) (fun kv _ => q - (intOf kv).toNat)
    case atStart => exact ⟨0, rfl, Nat.zero_le _, P2.out, Z2.out, B2.out, by omega⟩
    case round =>
      obtain ⟨k, rfl, hk, PQ, ZQ, BQ, hzq⟩ := hrel
      by_cases hkq : k < q
      · have k0 : (0 : Int) ≤ k := by omega
        have k1 : (k : Int) < q := by omega
        obtain ⟨g, u, hA, hc, hf⟩ := ZQ.out.cell hkq
        subst hA
        obtain ⟨z5, b5, p5⟩ := ZQ.out.set hkq (.int .u32 0) hb1 hzq
        have Z5 := Lib.hid z5
        have B5 := Lib.hid (BQ.out.trans b5)
        have P5 := Lib.hid (p5 PQ.out)
        have hz5 := b5.size
        have hsz : (wr.setCell ⟨g, k, none⟩ (.int .u32 0)).heap.size = wr.heap.size := by simp
        clear z5 b5 p5
        go_wp2
        go_roundw
        case rel => exact ⟨k + 1, by go_num, by omega, P5.out, Z5.out, B5.out, by omega⟩
        case measure => simp [intOf]; omega
      · obtain rfl : k = q := by omega
        obtain ⟨v1, ws1, v2, ms, o1, o2, o3, o4, o5⟩ := PQ.out
        subst o3
        have G1 := Lib.hid (groupsK wr o1 o5)
        have hmn : ms.length ≤ 16 := by simpa using o5
        have G2 := Lib.hid (fun (V : World) (b : Below wr.heap.size wr V) => rgroupsK V (o2.nx b) hmn)
        have O4 := Lib.hid o4
        obtain ⟨ks, hks⟩ : ∃ ks, keysG (ms.map toG) = ks := ⟨_, rfl⟩
        have hkl : ks.length ≤ 16 := by rw [← hks, keys_len]; exact hmn
        rw [hks] at G1
        simp only [hks] at G2
        clear o1 o2 o4 o5 hks
        go_wp2_with fail
        refine G1.out.mono ?_
        rintro e w3 ⟨V3, rfl, ov3, b3⟩
        have OV3 := Lib.hid ov3
        have B3 := Lib.hid b3
        clear ov3 b3
        go_wp2_with fail
        refine (G2.out _ B3.out).mono ?_
        rintro e w4 ⟨V4, rfl, ov4, b4⟩
        have OV4 : Hid (w4.ownsRow wr.heap.size 25 1 V3 ks.length (addrC ks)) := own_nx OV3.out b4
        have OV5 : Hid (w4.ownsRow w3.heap.size 25 1 V4 ks.length (addrC ks)) := ov4
        have B4 := Lib.hid (nx B3.out b4)
        clear ov4 b4
        go_wp2_with fail
        refine (addrsK w4 OV4.out OV5.out (by omega)).mono ?_
        rintro e w5 ⟨rfl, b5⟩
        have B5 := Lib.hid (nx B4.out b5)
        clear b5
        go_wp2_with fail
        refine (G2.out _ B5.out).mono ?_
        rintro e w6 ⟨V6, rfl, ov6, b6⟩
        obtain ⟨q6, hq6⟩ : ∃ q6, ks.length = q6 := ⟨_, rfl⟩
        have ov6' : w6.ownsRow w5.heap.size 25 1 V6 ks.length (addrC ks) := ov6
        rw [hq6] at ov6' hkl
        obtain ⟨A6, c6, rfl⟩ := own_slice (size := 1) ov6'
        have B6 := Lib.hid (nx B5.out b6)
        have hq7 : ¬ (16 : Int) < q6 := by omega
        clear ov6 ov6' b6 hq6
        go_wp2
        go_roundw
        case rel => exact ⟨now + z, i + 1, _, by go_num, by go_num, by omega, by omega, by omega, by push_cast; omega, PQ.out.nx B6.out, nx BQ.out (B6.out.mono (by omega))⟩
        case measure => simp [intOf]; omega
set_option maxRecDepth 100000 in
theorem iGMPPlays_lifted (os : Os) (started : os.Started) (H : Type) (enc : TypeId × Value → H) :
    ReturnsInHanded {} Try.checked os 7 .any (Rows.iGMPPlaysSpec.pre6 enc Try.prog Try.f7 Rows.iGMPPlaysRow.domain false) (Rows.iGMPPlaysSpec.post enc Try.prog Try.f7 false true false false) :=
  law_lift started (by kernel_rfl) Try.func7
    (ChangeSpec.witness6 (enc := enc) (C := Try.checked) false ⟨#[], #[.slice none 0 0], []⟩ 8 (by kernel_rfl) (by kernel_rfl) (by kernel_rfl) (by kernel_rfl))
    rfl rfl Try.underlying4 (by kernel_rfl) (fun ds h => match ds, h with | [_], _ => rfl)
    (fun W base args ds p hval hA hsz => by
      rw [Try.params7] at hA hval
      have hsz' := hsz
      rw [Try.params7] at hsz'
      obtain ⟨v0, d0, rfl, rfl, h0⟩ := trodAll_one hA
      obtain ⟨A, n, c, l, rfl, h1, h2, h3, h4⟩ := open_sp (hval 0 55 v0 rfl rfl) h0
      exact iGMPPlays_walk A n c l W h1 h2 h3 h4)
theorem iGMPPlays_holds : Rows.IGMPPlaysSaid :=
  OpenClaim.holds_of_wide 7 Try.f7 rfl rfl rfl rfl rfl rfl rfl ⟨rfl, rfl, rfl, rfl, rfl⟩ rfl rfl rfl rfl rfl (by kernel_rfl) Try.func7 (by kernel_rfl)
    (of_decide_eq_true (by kernel_rfl)) (by unfold Func.isWrapper; rw [if_neg (of_decide_eq_false (by kernel_rfl))]; exact ⟨rfl, rfl⟩)
    (fun os started H enc _ => iGMPPlays_lifted os started H enc)
end Go.Proofs.Ytjkmkafceeblpaa
