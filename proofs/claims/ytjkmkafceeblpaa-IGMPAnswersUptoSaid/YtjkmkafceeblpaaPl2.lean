/-
  Groups: a step of the script, in both.
-/
import Derived.Test.YtjkmkafceeblpaaPl1
import Derived.Test.YtjkmkafceeblpaaRh3
import Derived.Test.YtjkmkafceeblpaaRh4
set_option linter.unusedVariables false
namespace Go.Proofs.Ytjkmkafceeblpaa
open Go.RowKit

def Bt (w : World) (B h r : Nat) (gs : List Gm) : Prop := ∃ v ws v2 ms, IsHg w B h gs v ws ∧ IsRh w B r ms v2 ∧ ms.map toG = gs ∧ SortG gs ∧ gs.length ≤ 16
theorem Bt.nx {w w' : World} {B h r : Nat} {gs : List Gm} (o : Bt w B h r gs) (k : Below w.heap.size w w') : Bt w' B h r gs := by
  obtain ⟨v, ws, v2, ms, h1, h2, h3⟩ := o
  exact ⟨v, ws, v2, ms, h1.nx k, h2.nx k, h3⟩
theorem len_keys {gs gs2 : List Gm} (h : keysG gs2 = keysG gs) : gs2.length = gs.length := by
  have := congrArg List.length h
  simpa [keysG] using this
theorem len_leave {gs : List Gm} (hn : gs.length ≤ 16) (a : Int) : (leaveG gs a).1.length ≤ 16 := by
  unfold leaveG
  split
  · show (gs.take _ ++ gs.drop _).length ≤ 16
    rw [List.length_append, List.length_take, List.length_drop]
    omega
  · exact hn
open Classical in
noncomputable def hearX (gs : List Gm) (ty mx ga now draw : Int) : List Gm := if okM ty mx then hearG gs ty mx ga now draw else gs
theorem keys_hearX (gs : List Gm) (ty mx ga now draw : Int) : keysG (hearX gs ty mx ga now draw) = keysG gs := by
  unfold hearX
  split
  · exact keys_hear _ _ _ _ _ _
  · rfl
theorem hearAll (w : World) {B h : Nat} {gs : List Gm} {v : Value} {ws : List Gp} (o : IsHg w B h gs v ws) (hs : SortG gs) (hn : gs.length ≤ 16) (ty mx ga now draw : Int) (g0 : 0 ≤ ga) (g1 : ga ≤ 4294967295) (h0 : 0 ≤ now) (h1 : now ≤ 1000000000000) (d1 : draw ≤ 9223372036854775807) (d0 : -9223372036854775808 ≤ draw) (hB : B ≤ w.heap.size) :
    Calls Try.prog 16 #[.pointer (some ⟨h, 0, none⟩), .agg #[.int .i64 ty, .int .i64 mx, .int .u32 ga], .int .i64 now, .int .i64 draw] w fun e w' => StP w B h (hearX gs ty mx ga now draw) v e w' := by
  unfold hearX
  split
  · rename_i hok
    exact hearK w o hs hn ty mx ga now draw hok g0 g1 h0 h1 d1 d0 hB
  · rename_i hok
    exact hearBad w o ty mx ga now draw hok hB
theorem rhearAll (w : World) {B h : Nat} {ms : List Mb} {v : Value} {gs : List Gm} (o : IsRh w B h ms v) (hg : ms.map toG = gs) (hs : SortG gs) (hn : gs.length ≤ 16) (ty mx ga now draw : Int) (g0 : 0 ≤ ga) (g1 : ga ≤ 4294967295) (h0 : 0 ≤ now) (h1 : now ≤ 1000000000000) (d1 : draw ≤ 9223372036854775807) (d0 : -9223372036854775808 ≤ draw) (hB : B ≤ w.heap.size) :
    Calls Try.prog 48 #[.pointer (some ⟨h, 0, none⟩), .agg #[.int .i64 ty, .int .i64 mx, .int .u32 ga], .int .i64 now, .int .i64 draw] w fun e w' => RaP w B h (hearX gs ty mx ga now draw) e w' := by
  subst hg
  unfold hearX
  split
  · rename_i hok
    rw [← stepsH_hear hs]
    exact rhearK w o (by simpa using hn) ty mx ga now draw hok g0 g1 h0 h1 d1 d0 hB
  · rename_i hok
    exact rhearBad w o ty mx ga now draw hok hB
theorem outs_join (gs : List Gm) (a now draw : Int) : (joinG gs a now draw).2.1.length ≤ 1000 := by
  unfold joinG
  split
  · simp
  · split
    · simp
    · split <;> simp
theorem outs_leave (gs : List Gm) (a : Int) : (leaveG gs a).2.1.length ≤ 1000 := by
  unfold leaveG
  split
  · show (if _ then _ else _ : List (Int × Int × Int)).length ≤ 1000
    split <;> simp
  · simp
theorem outs_tick (gs : List Gm) (k : Nat) (now : Int) (hn : gs.length ≤ 16) : (tickO gs k now).length ≤ 1000 := by
  unfold tickO
  rw [List.length_map]
  have h1 := List.length_filter_le (firedM now) (gs.take k)
  rw [List.length_take] at h1
  omega
def DoP (w : World) (B h r : Nat) (e : Ending) (w' : World) : Prop :=
  ∃ gs, e = .returned (.bool true) ∧ Bt w' B h r gs ∧ Below B w w' ∧ KeepT w.heap.size [40, 77, 59, 96] w w'
theorem km1 {w w' : World} {n : Nat} (k : KeepT n [40, 77] w w') : KeepT n [40, 77, 59, 96] w w' := k.mono (by simp)
theorem km2 {w w' : World} {n : Nat} (k : KeepT n [59, 96] w w') : KeepT n [40, 77, 59, 96] w w' := k.mono (by simp)
set_option maxRecDepth 10000 in
set_option maxHeartbeats 3200000 in
theorem doesK (w : World) {B h r : Nat} {gs : List Gm} (o : Bt w B h r gs) (kind ga ty mx gm draw by_ now : Int) (a0 : 0 ≤ ga) (a1 : ga ≤ 4294967295) (g0 : 0 ≤ gm) (g1 : gm ≤ 4294967295) (h0 : 0 ≤ now) (h1 : now ≤ 1000000000000) (d1 : draw ≤ 9223372036854775807) (d0 : -9223372036854775808 ≤ draw) (hB : B ≤ w.heap.size) :
    Calls Try.prog 23 #[.pointer (some ⟨h, 0, none⟩), .pointer (some ⟨r, 0, none⟩), .agg #[.int .i64 kind, .int .u32 ga, .int .i64 ty, .int .i64 mx, .int .u32 gm, .int .i64 draw, .int .i64 by_], .int .i64 now] w fun e w' => DoP w B h r e w' := by
  obtain ⟨v, ws, v2, ms, o1, o2, rfl, hs, hn⟩ := o
  obtain ⟨W, hW⟩ : ∃ W, w.alloc (.cells #[.int .i64 kind, .int .u32 ga, .int .i64 ty, .int .i64 mx, .int .u32 gm, .int .i64 draw, .int .i64 by_] 61) = W := ⟨_, rfl⟩
  have bw : Below w.heap.size w W := by rw [← hW]; exact al (rf w) _
  have BX : Hid (Blk W w.heap.size 61 #[.int .i64 kind, .int .u32 ga, .int .i64 ty, .int .i64 mx, .int .u32 gm, .int .i64 draw, .int .i64 by_]) := by show Blk _ _ _ _; rw [← hW]; exact Blk.new _ _ _
  have O1 := Lib.hid (o1.nx bw)
  have O2 := Lib.hid (o2.nx bw)
  have HS := Lib.hid hs
  have HN := Lib.hid hn
  have hmn : ms.length ≤ 16 := by simpa using hn
  have HMN := Lib.hid hmn
  have zW := bw.size
  have x0 := BX.out.cell 0
  have x1 := BX.out.cell 1
  have x2 := BX.out.cell 2
  have x3 := BX.out.cell 3
  have x4 := BX.out.cell 4
  have x5 := BX.out.cell 5
  have hBW : B ≤ W.heap.size := by omega
  have BW := Lib.hid (bw.mono hB)
  have KW := Lib.hid (KeepT.of_below (n := w.heap.size) (ts := [40, 77, 59, 96]) bw (Nat.le_refl _))
  clear o1 o2 bw hs hn hmn
  by_cases k1 : kind = 1
  · subst k1
    obtain ⟨J, hJ⟩ : ∃ J, joinG (ms.map toG) ga now draw = J := ⟨_, rfl⟩
    have C1 := joinK W O1.out HS.out HN.out ga now draw h0 h1 d1 d0 hBW
    have C2 := fun (V : World) (o : IsRh V B r ms v2) (hv : B ≤ V.heap.size) => rjoinK V o HS.out HMN.out ga now draw h0 h1 d1 d0 hv
    have C3 := outs_join (ms.map toG) ga now draw
    have C4 := sort_join HS.out ga now draw
    have C5 := len_join HN.out ga now draw
    simp only [hJ] at C1 C2 C3 C4 C5
    obtain ⟨J1, J2, J3⟩ := J
    simp only at C1 C2 C3 C4 C5
    have C1 := Lib.hid C1; have C2 := Lib.hid C2; have C3 := Lib.hid C3; have C4 := Lib.hid C4; have C5 := Lib.hid C5
    clear hJ
    go_enter Try.func23, Try.ntmps23
    go_wp2_with fail
    refine C1.out.mono ?_
    rintro e w1 ⟨V1, v', ws', rfl, ov, oh, b1, kk1⟩
    have OV := Lib.hid ov
    have OH := Lib.hid oh
    have z1 := b1.size
    have BX1 := Lib.hid (kk1.blk_ BX.out (by decide))
    have OR := Lib.hid (O2.out.keep kk1 (by decide) (by decide))
    have B1 := Lib.hid (BW.out.trans b1)
    have K1 := Lib.hid (KW.out.trans ((km1 kk1).less zW))
    have y1 := BX1.out.cell 1
    have y5 := BX1.out.cell 5
    clear x0 x1 x2 x3 x4 x5 ov oh b1 kk1
    go_wp2_with fail
    refine (C2.out w1 OR.out (by omega)).mono ?_
    rintro e w2 ⟨V2, v3, ms3, rfl, ov2, or2, em, b2, kk2⟩
    have OV1 := Lib.hid (kk2.own OV.out (by decide))
    have OV2 := Lib.hid ov2
    have OH2 := Lib.hid (OH.out.keep kk2 (by decide) (by decide) (by decide))
    have OR2 := Lib.hid or2
    have EM := Lib.hid em
    have z2 := b2.size
    have B2 := Lib.hid (B1.out.trans b2)
    have K2 := Lib.hid (K1.out.trans ((km2 kk2).less (by omega)))
    clear y1 y5 ov2 or2 em b2 kk2
    go_wp2_with fail
    refine (messagesK w2 OV1.out OV2.out C3.out).mono ?_
    rintro e w3 ⟨rfl, b3⟩
    have HEE : Hid (DoP w B h r (.returned (.bool true)) w3) := ⟨J1, rfl, ⟨_, _, _, _, OH2.out.nx b3, OR2.out.nx b3, EM.out, C4.out, C5.out⟩, B2.out.trans (b3.mono (by omega)), K2.out.trans (KeepT.of_below b3 (by omega))⟩
    clear b3
    go_wp2
    go_ret
    exact HEE.out
  by_cases k2 : kind = 2
  · subst k2
    obtain ⟨J, hJ⟩ : ∃ J, leaveG (ms.map toG) ga = J := ⟨_, rfl⟩
    have C1 := leaveK W O1.out HS.out HN.out ga hBW
    have C2 := fun (V : World) (o : IsRh V B r ms v2) (hv : B ≤ V.heap.size) => rleaveK V o HS.out HMN.out ga hv
    have C3 := outs_leave (ms.map toG) ga
    have C4 := sort_leave HS.out ga
    have C5 := len_leave HN.out ga
    simp only [hJ] at C1 C2 C3 C4 C5
    obtain ⟨J1, J2, J3⟩ := J
    simp only at C1 C2 C3 C4 C5
    have C1 := Lib.hid C1; have C2 := Lib.hid C2; have C3 := Lib.hid C3; have C4 := Lib.hid C4; have C5 := Lib.hid C5
    clear hJ
    go_enter Try.func23, Try.ntmps23
    go_wp2_with fail
    refine C1.out.mono ?_
    rintro e w1 ⟨V1, v', ws', rfl, ov, oh, b1, kk1⟩
    have OV := Lib.hid ov
    have OH := Lib.hid oh
    have z1 := b1.size
    have BX1 := Lib.hid (kk1.blk_ BX.out (by decide))
    have OR := Lib.hid (O2.out.keep kk1 (by decide) (by decide))
    have B1 := Lib.hid (BW.out.trans b1)
    have K1 := Lib.hid (KW.out.trans ((km1 kk1).less zW))
    have y1 := BX1.out.cell 1
    clear x0 x1 x2 x3 x4 x5 ov oh b1 kk1
    go_wp2_with fail
    refine (C2.out w1 OR.out (by omega)).mono ?_
    rintro e w2 ⟨V2, v3, ms3, rfl, ov2, or2, em, b2, kk2⟩
    have OV1 := Lib.hid (kk2.own OV.out (by decide))
    have OV2 := Lib.hid ov2
    have OH2 := Lib.hid (OH.out.keep kk2 (by decide) (by decide) (by decide))
    have OR2 := Lib.hid or2
    have EM := Lib.hid em
    have z2 := b2.size
    have B2 := Lib.hid (B1.out.trans b2)
    have K2 := Lib.hid (K1.out.trans ((km2 kk2).less (by omega)))
    clear y1 ov2 or2 em b2 kk2
    go_wp2_with fail
    refine (messagesK w2 OV1.out OV2.out C3.out).mono ?_
    rintro e w3 ⟨rfl, b3⟩
    have HEE : Hid (DoP w B h r (.returned (.bool true)) w3) := ⟨J1, rfl, ⟨_, _, _, _, OH2.out.nx b3, OR2.out.nx b3, EM.out, C4.out, C5.out⟩, B2.out.trans (b3.mono (by omega)), K2.out.trans (KeepT.of_below b3 (by omega))⟩
    clear b3
    go_wp2
    go_ret
    exact HEE.out
  by_cases k3 : kind = 3
  · subst k3
    have C1 := Lib.hid (hearAll W O1.out HS.out HN.out ty mx gm now draw g0 g1 h0 h1 d1 d0 hBW)
    have C2 := Lib.hid (fun (V : World) (o : IsRh V B r ms v2) (hv : B ≤ V.heap.size) => rhearAll V o rfl HS.out HN.out ty mx gm now draw g0 g1 h0 h1 d1 d0 hv)
    have C4 := Lib.hid (sort_keys HS.out (keys_hearX (ms.map toG) ty mx gm now draw))
    have C5 : Hid ((hearX (ms.map toG) ty mx gm now draw).length ≤ 16) := by show _ ≤ _; rw [len_keys (keys_hearX _ _ _ _ _ _)]; exact HN.out
    go_enter Try.func23, Try.ntmps23
    go_wp2_with fail
    refine C1.out.mono ?_
    rintro e w1 ⟨ws', rfl, oh, b1, kk1⟩
    have OH := Lib.hid oh
    have z1 := b1.size
    have BX1 := Lib.hid (kk1.blk_ BX.out (by decide))
    have OR := Lib.hid (O2.out.keep kk1 (by decide) (by decide))
    have B1 := Lib.hid (BW.out.trans b1)
    have K1 := Lib.hid (KW.out.trans ((km1 kk1).less zW))
    have y2 := BX1.out.cell 2
    have y3 := BX1.out.cell 3
    have y4 := BX1.out.cell 4
    have y5 := BX1.out.cell 5
    clear x0 x1 x2 x3 x4 x5 oh b1 kk1
    go_wp2_with fail
    refine (C2.out w1 OR.out (by omega)).mono ?_
    rintro e w2 ⟨v3, ms3, rfl, or2, em, b2, kk2⟩
    have z2 := b2.size
    have HEE : Hid (DoP w B h r (.returned (.bool true)) w2) := ⟨_, rfl, ⟨_, _, _, _, OH.out.keep kk2 (by decide) (by decide) (by decide), or2, em, C4.out, C5.out⟩, B1.out.trans b2, K1.out.trans ((km2 kk2).less (by omega))⟩
    clear y2 y3 y4 y5 or2 em b2 kk2
    go_wp2
    go_ret
    exact HEE.out
  · have e1 : (kind == 1) = false := by simpa using k1
    have e2 : (kind == 2) = false := by simpa using k2
    have e3 : (kind == 3) = false := by simpa using k3
    have C1 := Lib.hid (tickK W O1.out HN.out now hBW)
    have C2 := Lib.hid (fun (V : World) (o : IsRh V B r ms v2) (hv : B ≤ V.heap.size) => rtickK V o HMN.out now hv)
    have C3 := Lib.hid (outs_tick (ms.map toG) (ms.map toG).length now HN.out)
    have C4 := Lib.hid (sort_keys HS.out (keys_tick (ms.map toG) now))
    have C5 : Hid (((ms.map toG).map (tickM now)).length ≤ 16) := by show _ ≤ _; rw [List.length_map]; exact HN.out
    clear k1 k2 k3
    go_enter Try.func23, Try.ntmps23
    go_wp2_with fail
    refine C1.out.mono ?_
    rintro e w1 ⟨V1, ws', rfl, ov, oh, b1, kk1⟩
    have OV := Lib.hid ov
    have OH := Lib.hid oh
    have z1 := b1.size
    have OR := Lib.hid (O2.out.keep kk1 (by decide) (by decide))
    have B1 := Lib.hid (BW.out.trans b1)
    have K1 := Lib.hid (KW.out.trans ((km1 kk1).less zW))
    clear x0 x1 x2 x3 x4 x5 ov oh b1 kk1
    go_wp2_with fail
    refine (C2.out w1 OR.out (by omega)).mono ?_
    rintro e w2 ⟨V2, v3, ms3, rfl, ov2, or2, em, b2, kk2⟩
    have OV1 := Lib.hid (kk2.own OV.out (by decide))
    have OV2 := Lib.hid ov2
    have OH2 := Lib.hid (OH.out.keep kk2 (by decide) (by decide) (by decide))
    have OR2 := Lib.hid or2
    have EM := Lib.hid em
    have z2 := b2.size
    have B2 := Lib.hid (B1.out.trans b2)
    have K2 := Lib.hid (K1.out.trans ((km2 kk2).less (by omega)))
    clear ov2 or2 em b2 kk2
    go_wp2_with fail
    refine (messagesK w2 OV1.out OV2.out C3.out).mono ?_
    rintro e w3 ⟨rfl, b3⟩
    have HEE : Hid (DoP w B h r (.returned (.bool true)) w3) := ⟨_, rfl, ⟨_, _, _, _, OH2.out.nx b3, OR2.out.nx b3, EM.out, C4.out, C5.out⟩, B2.out.trans (b3.mono (by omega)), K2.out.trans (KeepT.of_below b3 (by omega))⟩
    clear b3
    go_wp2
    go_ret
    exact HEE.out
end Go.Proofs.Ytjkmkafceeblpaa
