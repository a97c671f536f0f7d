/-
  IGMPAnswers: a Query of all groups is answered for each within its Max, once; the law returns true.
-/
import Derived.Test.YtjkmkafceeblpaaPl2
import Derived.Test.YtjkmkafceeblpaaPl4
import Derived.Test.YtjkmkafceeblpaaOpn
import Derived.Test.YtjkmkafceeblpaaLaw
import Derived.Test.YtjkmkafceeblpaaIg2
import Derived.Test.YtjkmkafceeblpaaIgA
import Derived.Deep.CondSized
import Derived.JoinedCond
set_option linter.unusedVariables false
namespace Go.Proofs.Ytjkmkafceeblpaa
open Go.ChangeShapes Go.WideShapes Go.ChangeAt Go.RowKit

set_option maxRecDepth 100000
theorem trod_ad {H : Type} {enc : TypeId × Value → H} {w : World} {base : Nat} {sp : Nat → Bool} {held : Bool} {fuel : Nat} {cs : List Value} {x : DataW H × List MemPlace}
    (hsz : cs.length = 1) (hf : DataW.trod enc Try.prog w base sp held fuel 25 cs = some x) : ∃ a : Int, cs = [.int .u32 a] := by
  have hk := leaves_of (F := 6) (N := 1) (ks := [.int .u32]) hf (by kernel_rfl)
  match cs, hsz with
  | [x0], _ =>
    obtain ⟨v0, e0, a0, h0, w0⟩ := hk 0 _ rfl
    obtain rfl : x0 = v0 := by injection e0
    subst h0
    exact ⟨a0, rfl⟩
theorem open_ads {H : Type} {enc : TypeId × Value → H} {w : World} {base b0 : Nat} {r : Reach} {sp : Nat → Bool} {held : Bool} {v : Value} {d : DataW H} {p : List MemPlace}
    (hv : Value.okWide Try.prog w r b0 36 v) (h : DataW.Trod enc Try.prog w base sp held 36 v d p) :
    ∃ (A : Option Addr) (n c : Nat) (l : List (List Value)), v = .slice A n c ∧ n ≤ c ∧ c ≤ maxLen ∧ RowsAt w w.heap.size 1 A n l ∧ ∀ r ∈ l, ∃ a : Int, r = [.int .u32 a] :=
  open_rows Try.underlying36 (by kernel_rfl) (by decide) hv h (fun cs => ∃ a : Int, cs = [.int .u32 a]) (fun _ cs _ hl hx => trod_ad hl hx)
def Hs (w : World) (B h : Nat) (gs : List Gm) : Prop := ∃ v ws, IsHg w B h gs v ws ∧ SortG gs ∧ gs.length ≤ 16
theorem Hs.nx {w w' : World} {B h : Nat} {gs : List Gm} (o : Hs w B h gs) (k : Below w.heap.size w w') : Hs w' B h gs := by
  obtain ⟨v, ws, h1, h2⟩ := o
  exact ⟨v, ws, h1.nx k, h2⟩
theorem hs_new (w : World) : Hs (w.alloc (.cells #[.slice none 0 0] 40)) w.heap.size w.heap.size [] :=
  ⟨_, [], ⟨Blk.new _ _ _, World.ownsRow_nil _ _ _ _, ⟨rfl, fun i r m hr => by simp at hr⟩, Nat.le_refl _⟩, fun s t x y hx => by simp [keysG] at hx, by decide⟩
def TkQ (w : World) (B h : Nat) (gs : List Gm) (q : Nat) (e : Ending) (w' : World) : Prop :=
  ∃ A c, e = .returned (.slice A q c) ∧ Hs w' B h gs ∧ Below B w w'
theorem tickH (w : World) {B h : Nat} {gs : List Gm} (o : Hs w B h gs) (now : Int) (hB : B ≤ w.heap.size) :
    Calls Try.prog 15 #[.pointer (some ⟨h, 0, none⟩), .int .i64 now] w fun e w' => TkQ w B h (gs.map (tickM now)) (tickO gs gs.length now).length e w' := by
  obtain ⟨v, ws, o1, o2, o3⟩ := o
  refine (tickK w o1 o3 now hB).mono ?_
  rintro e w1 ⟨V, ws', rfl, ov, oh, b1, _⟩
  obtain ⟨A, c, rfl⟩ := own_slice (size := 3) ov
  exact ⟨A, c, rfl, ⟨v, ws', oh, sort_keys o2 (keys_tick gs now), by rw [List.length_map]; exact o3⟩, b1⟩
theorem law_lift_upto {os : Os} (started : os.Started) {H : Type} {enc : TypeId × Value → H} {f : FuncId} {fn : Func} {s : OpenSpec} {k : (H : Type) → List (DataW H) → Bool} (hk : s.cond = some k) {F : Stop.Interp} {conds : List PathCond} {T : TypeId}
    (noInit : Try.checked.prog.inits.idxOf? f = none) (hfn : Try.checked.prog.funcs[f]? = some fn)
    (witness : ∃ (w : World) (tape : Tape) (i : Input), w.os = os ∧ (w.forCall tape i).Shaped Try.checked.prog ∧ i.vars = [] ∧ Input.okWide Try.checked.prog (w.forCall tape i) .any w.heap.size f i ∧
      s.pre6 enc Try.checked.prog fn conds false (w.forCall tape i).memory i.args ∧ Assume.holds {} Try.checked.prog (lone (Frame.enter Try.checked.prog f i.args .normal) [] (w.forCall tape i)))
    (hv : s.vars = []) (hres : fn.resultTypes = #[T]) (hT : Try.prog.underlying T = some .bool) (hp : fn.params.toList.all (fun t => Try.prog.readableRec t && decide (t < Try.prog.types.size)) = true)
    (hspec : ∀ ds : List (DataW H), ds.length = fn.params.toList.length → s.fn F H ds = { results := [.lit (.bool true)], args := ds })
    (walk : ∀ (W : World) (base : Nat) (args : Array Value) (ds : List (DataW H)) (p : List MemPlace), (∀ (j : Nat) t v, fn.params[j]? = some t → args[j]? = some v → Value.okWide Try.prog W .any base t v) →
      DataW.TrodAll enc Try.prog W 0 (fun _ => true) true fn.params.toList args.toList ds p →
      Calls Try.prog f args W fun e W' => e = .returned (.bool true) ∧ Below W.heap.size W W') :
    ReturnsInHanded {} Try.checked os f .any (s.pre6 enc Try.checked.prog fn conds false) ((s.at F).post enc Try.checked.prog fn false true false false) := by
  refine returnsInHanded_of_cond_sized (C := Try.checked) hk own started noInit hfn witness ?_
  intro W base args ds gs before hval hW hcnd _ hreach _
  have hW' := hW
  obtain ⟨p, q, hA, hV, rfl, hfz, hnd⟩ := hW
  rw [hv] at hV
  obtain ⟨rfl, rfl⟩ := trodVars_none hV
  refine (walk W base args ds p hval hA).mono fun e W' ⟨he, hb⟩ => ?_
  subst he
  have hlt : ∀ x ∈ p, x.block < W.heap.size := fun x hx => hW'.lt x (by simpa using hx)
  have e1 : (s.at F).fn H (ds ++ []) = { results := [.lit (.bool true)], args := ds ++ [] } := hspec (ds ++ []) (by rw [List.append_nil]; exact trodAll_len hA)
  have hps : ∀ t ∈ fn.params.toList, Try.prog.readableRec t = true ∧ t < Try.prog.types.size := fun t ht => by
    have h := List.all_eq_true.1 hp t ht
    simp only [Bool.and_eq_true, decide_eq_true_eq] at h
    exact h
  refine ⟨_, rfl, _, _, _, [], p, [], hW', ?_, ?_, ?_, hb.frame _, fun h => by cases h⟩
  · rw [e1, hres]; exact trodAll_mk1 (shut_bool hT _)
  · rw [e1, List.append_nil]; exact trodAll_below hb hps hlt hA
  · have hv2 : (s.at F).vars = [] := hv
    rw [e1, hv2]; rfl
theorem joinH (w : World) {B h : Nat} {gs : List Gm} (o : Hs w B h gs) (hd : Due gs 1 10) (a draw : Int) (d1 : draw ≤ 9223372036854775807) (d0 : -9223372036854775808 ≤ draw) (hB : B ≤ w.heap.size) :
    Calls Try.prog 14 #[.pointer (some ⟨h, 0, none⟩), .int .u32 a, .int .i64 0, .int .i64 draw] w fun e w' => ∃ V err gs2, e = .returned (.tuple #[V, .int .i64 err]) ∧ Hs w' B h gs2 ∧ Due gs2 1 10 ∧ Below B w w' ∧ (((err == 0) = false ∧ gs2.length = gs.length) ∨ (err = 0 ∧ gs2.length = gs.length + 1)) := by
  obtain ⟨v, ws, o1, o2, o3⟩ := o
  have hsj := sort_join o2 a 0 draw
  have hlj := len_join o3 a 0 draw
  refine (joinK w o1 o2 o3 a 0 draw (by omega) (by omega) d1 d0 hB).mono ?_
  rintro e w1 ⟨V, v', ws', rfl, ov, oh, b1, _⟩
  rcases join_cases gs a 0 draw with ⟨err, he, hj⟩ | ⟨gs', hj, hl, hdue⟩
  · rw [hj] at oh hsj hlj ⊢
    exact ⟨V, err, gs, rfl, ⟨v', ws', oh, hsj, hlj⟩, hd, b1, .inl ⟨he, rfl⟩⟩
  · rw [hj] at oh hsj hlj ⊢
    exact ⟨V, 0, gs', rfl, ⟨v', ws', oh, hsj, hlj⟩, hdue 1 10 hd (by omega) (by omega), b1, .inr ⟨rfl, hl⟩⟩
set_option maxHeartbeats 3200000 in
theorem iGMPAnswers_walk (A : Option Addr) (n c : Nat) (l : List (List Value)) (much draw : Int) (w : World) (hn : n ≤ c) (hm : c ≤ maxLen) (hA : RowsAt w w.heap.size 1 A n l) (hl : ∀ r ∈ l, ∃ a : Int, r = [.int .u32 a]) (u0 : -9223372036854775808 ≤ much) (u1 : much ≤ 9223372036854775807) (d0 : -9223372036854775808 ≤ draw) (d1 : draw ≤ 9223372036854775807) :
    Calls Try.prog 4 #[.slice A n c, .int .i64 much, .int .i64 draw] w fun e w' => e = .returned (.bool true) ∧ Below w.heap.size w w' := by
  unfold maxLen at hm
  by_cases hn16 : 16 < n
  · go_enter Try.func4, Try.ntmps4
    go_wp2_with fail
    refine (known _).mono ?_
    rintro e w9 ⟨rfl, hb9⟩
    go_wp2
    go_ret
    exact ⟨rfl, hb9⟩
  by_cases hm1 : much < 1
  · go_enter Try.func4, Try.ntmps4
    go_wp2_with fail
    refine (known _).mono ?_
    rintro e w9 ⟨rfl, hb9⟩
    go_wp2
    go_ret
    exact ⟨rfl, hb9⟩
  by_cases hm2 : 255 < much
  · go_enter Try.func4, Try.ntmps4
    go_wp2_with fail
    refine (known _).mono ?_
    rintro e w9 ⟨rfl, hb9⟩
    go_wp2
    go_ret
    exact ⟨rfl, hb9⟩
  have HA := Lib.hid hA
  have HL := Lib.hid hl
  have H0 := Lib.hid (hs_new w)
  have B0 : Hid (Below w.heap.size w (w.alloc (.cells #[.slice none 0 0] 40))) := al (rf w) _
  have D0 : Hid (Due [] 1 10) := fun m hm => by cases hm
  clear hA hl
  go_enter Try.func4, Try.ntmps4
  go_wp2
  go_loopw [8, 9] (fun tv iv wr => ∃ (t i : Nat) (gs : List Gm), tv = .int .i64 t ∧ iv = .int .i64 i ∧ i ≤ n ∧ t ≤ i ∧ Hid (gs.length = t) ∧ Hid (Hs wr w.heap.size w.heap.size gs) ∧ Hid (Due gs 1 10) ∧ Hid (Below w.heap.size w wr)) (fun _ iv _ => n - (intOf iv).toNat)
  case atStart => exact ⟨0, 0, [], rfl, rfl, by omega, by omega, rfl, H0.out, D0.out, B0.out⟩
  case round =>
    obtain ⟨t, i, gs, rfl, rfl, hi, hti, HT, HH, HD, HB⟩ := hrel
    have hz0 := HB.out.size
    by_cases hlt : i < n
    · have i0 : (0 : Int) ≤ i := by omega
      have i1 : (i : Int) < n := by omega
      obtain ⟨ad, rr, hA, hadB, hr, hlen, hcell⟩ := (HA.out.below HB.out).row hlt
      obtain rfl := hA
      obtain ⟨a, rfl⟩ := HL.out rr (List.mem_of_getElem? hr)
      have hca : wr.cell? (ad.add i) = some (.int .u32 a) := by
        have := hcell 0 _ rfl
        rw [add_of_add, Nat.mul_one, Nat.add_zero] at this
        exact this
      have J := Lib.hid (joinH wr HH.out HD.out a draw d1 d0 hz0)
      clear hcell hr hlen hadB
      go_wp2_with fail
      refine J.out.mono ?_
      rintro e w1 ⟨V, err, gs2, rfl, hh, hd, b1, hcase⟩
      have HH1 := Lib.hid hh
      have HD1 := Lib.hid hd
      have HB1 := Lib.hid (HB.out.trans b1)
      have hc2 : ((err == 0) = false ∧ Hid (gs2.length = t)) ∨ (err = 0 ∧ Hid (gs2.length = t + 1)) := by
        rcases hcase with ⟨h1, h2⟩ | ⟨h1, h2⟩
        · exact .inl ⟨h1, h2.trans HT.out⟩
        · exact .inr ⟨h1, by show _ = _; rw [h2, HT.out]⟩
      clear hh hd b1 hca hcase J
      rcases hc2 with ⟨h1, h2⟩ | ⟨rfl, h2⟩
      · go_wp2
        go_roundw
        case rel => exact ⟨t, i + 1, gs2, by go_num, by go_num, by omega, by omega, h2.out, HH1.out, HD1.out, HB1.out⟩
        case measure => simp [intOf]; omega
      · go_wp2
        go_roundw
        case rel => exact ⟨t + 1, i + 1, gs2, by go_num, by go_num, by omega, by omega, h2.out, HH1.out, HD1.out, HB1.out⟩
        case measure => simp [intOf]; omega
    · obtain rfl : i = n := by omega
      have T1 := Lib.hid (tickH wr HH.out 1000 hz0)
      go_wp2_with fail
      refine T1.out.mono ?_
      rintro e w1 ⟨A1, c1, rfl, hh, b1⟩
      have hnone := none_tick (now := 1000) HD.out (by omega)
      have hlen : (gs.map (tickM 1000)).length = t := by rw [List.length_map]; exact HT.out
      obtain ⟨g1, hg1⟩ : ∃ g1, gs.map (tickM 1000) = g1 := ⟨_, rfl⟩
      rw [hg1] at hh hnone hlen
      obtain ⟨v, ws, o1, o2, o3⟩ := hh
      have hz1 := b1.size
      have hok : okM 17 much := ⟨by omega, by omega, by omega, by omega⟩
      have HK := Lib.hid (hearK w1 o1 o2 o3 17 much 0 1000 draw hok (by omega) (by omega) (by omega) (by omega) d1 d0 (by omega))
      have hear : hearG g1 17 much 0 1000 draw = askAll g1 g1.length much 1000 draw := by
        unfold hearG
        rw [if_neg (by decide), if_pos rfl, if_pos rfl]
      rw [hear] at HK
      have hdue := ask_due (mx := much) (now := 1000) (draw := draw) (by omega) hnone
      have hsrt : SortG (askAll g1 g1.length much 1000 draw) := sort_keys o2 (keys_askAll _ _ _ _ _)
      have hl2 : (askAll g1 g1.length much 1000 draw).length ≤ 16 := by rw [askAll_len]; exact o3
      rw [hlen] at hdue hsrt hl2 HK
      have HDU := Lib.hid hdue.1
      have HPE := Lib.hid hdue.2
      have HSR := Lib.hid hsrt
      have HL2 := Lib.hid hl2
      have B1 := Lib.hid (HB.out.trans b1)
      clear hdue hsrt hl2 hear hok hnone hlen hg1 o1 o2 o3 b1 T1
      go_wp2_with fail
      refine HK.out.mono ?_
      rintro e w2 ⟨ws2, rfl, oh, b2, _⟩
      have H2 : Hid (Hs w2 w.heap.size w.heap.size (askAll g1 t much 1000 draw)) := ⟨_, _, oh, HSR.out, HL2.out⟩
      have B2 := Lib.hid (B1.out.trans b2)
      clear oh b2 HK
      go_wp2
      go_loopw [12, 13] (fun tv kv wr => ∃ (told j : Nat) (gk : List Gm), tv = .int .i64 told ∧ kv = .int .i64 (1001 + j) ∧ (j : Int) ≤ much ∧ Hid (told + pend gk = t) ∧ told ≤ t ∧ Hid (Hs wr w.heap.size w.heap.size gk) ∧ Hid (Due gk (1001 + j) (1000 + much)) ∧ Hid (Below w.heap.size w wr)) (fun _ kv _ => (1001 + much - intOf kv).toNat)
      case atStart => exact ⟨0, 0, _, rfl, rfl, by omega, by show 0 + _ = _; rw [HPE.out, Nat.zero_add], by omega, H2.out, HDU.out, B2.out⟩
      case round =>
        obtain ⟨told, j, gk, rfl, rfl, hj, hp, htl, hk, hdk, hbk⟩ := hrel
        have hzk := hbk.out.size
        by_cases hjm : (j : Int) < much
        · have T3 := Lib.hid (tickH wr hk.out (1001 + j) hzk)
          have hpt := pend_tick gk (1001 + j)
          obtain ⟨q, hq⟩ : ∃ q, (tickO gk gk.length (1001 + j)).length = q := ⟨_, rfl⟩
          rw [hq] at T3 hpt
          have hq1 : told + q ≤ t := by have := hp.out; omega
          have hp2 : Hid (told + q + pend (gk.map (tickM (1001 + j))) = t) := by show _ = _; have := hp.out; omega
          have hd2 : Hid (Due (gk.map (tickM (1001 + j))) (1001 + j + 1) (1000 + much)) := due_tick hdk.out
          have hle : 1001 + (j : Int) ≤ 1000 + much := by omega
          clear hpt hq
          go_wp2_with fail
          refine T3.out.mono ?_
          rintro e w5 ⟨A5, c5, rfl, hh5, b5⟩
          have H5 := Lib.hid hh5
          have B5 := Lib.hid (hbk.out.trans b5)
          clear hh5 b5 T3
          go_wp2
          go_roundw
          case rel => exact ⟨told + q, j + 1, _, by go_num, by go_num, by push_cast; omega, hp2.out, by omega, H5.out, by have := hd2.out; rw [show (1001 : Int) + ((j + 1 : Nat) : Int) = 1001 + j + 1 by omega]; exact this, B5.out⟩
          case measure => simp [intOf]; omega
        · have hjj : (j : Int) = much := by omega
          have hp0 : pend gk = 0 := pend_none hdk.out (by omega)
          have htt : told = t := by have := hp.out; omega
          have T3 := tickH wr hk.out 100000 hzk
          have hpt := pend_tick gk 100000
          have hq : (tickO gk gk.length 100000).length = 0 := by omega
          rw [hq] at T3
          have T4 := Lib.hid T3
          have hle : ¬ 1001 + (j : Int) ≤ 1000 + much := by omega
          clear T3 hpt hq hp0
          subst htt
          go_wp2_with fail
          refine T4.out.mono ?_
          rintro e w5 ⟨A5, c5, rfl, hh5, b5⟩
          have B5 := Lib.hid (hbk.out.trans b5)
          clear hh5 b5 T4
          go_wp2_with fail
          refine (known _).mono ?_
          rintro e w9 ⟨rfl, hb9⟩
          go_wp2
          go_ret
          exact ⟨rfl, nx B5.out hb9⟩
theorem iGMPAnswers_lifted (os : Os) (started : os.Started) (H : Type) (enc : TypeId × Value → H) (F : Stop.Interp) :
    ReturnsInHanded {} Try.checked os 4 .any ((Rows.OpenSpec.upto Rows.iGMPAnswersSpec).pre6 enc Try.checked.prog Try.f4 Rows.iGMPAnswersUptoRow.domain false) (((Rows.OpenSpec.upto Rows.iGMPAnswersSpec).at F).post enc Try.checked.prog Try.f4 false true false false) :=
  law_lift_upto (k := Rows.uptoSmall) started rfl (F := F) (by kernel_rfl) Try.func4
    (OpenSpec.witness (enc := enc) (C := Try.checked) (s := Rows.OpenSpec.upto Rows.iGMPAnswersSpec) (k := Rows.uptoSmall) rfl false ⟨#[], #[.slice none 0 0, .int .i64 0, .int .i64 0], []⟩ 8 (by kernel_rfl) (by kernel_rfl) (by kernel_rfl)
      (x := ([.nil, .lit (.int .i64 0), .lit (.int .i64 0)], [], [])) (by kernel_rfl) (by kernel_rfl) (by kernel_rfl))
    rfl rfl Try.underlying4 (by kernel_rfl) (fun ds h => match ds, h with | [_, _, _], _ => rfl)
    (fun W base args ds p hval hA => by
      rw [Try.params4] at hA hval
      obtain ⟨v0, v1, v2, d0, d1, d2, p0, p1, p2, rfl, rfl, rfl, h0, h1, h2⟩ := trodAll_three hA
      obtain ⟨A, n, c, l, rfl, q1, q2, q3, q4⟩ := open_ads (hval 0 36 v0 rfl rfl) h0
      obtain ⟨much, rfl, m0, m1⟩ := open_i64x (hval 1 3 v1 rfl rfl) h1
      obtain ⟨draw, rfl, r0, r1⟩ := open_i64x (hval 2 3 v2 rfl rfl) h2
      exact iGMPAnswers_walk A n c l much draw W q1 q2 q3 q4 m0 m1 r0 r1)
theorem iGMPAnswers_holds : Rows.IGMPAnswersUptoSaid :=
  OpenClaim.holds_of_cond 4 Try.f4 rfl rfl rfl rfl rfl rfl rfl ⟨rfl, rfl, rfl, rfl, rfl⟩ rfl rfl rfl rfl rfl (by kernel_rfl) Try.func4 (by kernel_rfl)
    (of_decide_eq_true (by kernel_rfl)) (by unfold Func.isWrapper; rw [if_neg (of_decide_eq_false (by kernel_rfl))]; exact ⟨rfl, rfl⟩)
    (fun os started H enc _ F => iGMPAnswers_lifted os started H enc F)
end Go.Proofs.Ytjkmkafceeblpaa
