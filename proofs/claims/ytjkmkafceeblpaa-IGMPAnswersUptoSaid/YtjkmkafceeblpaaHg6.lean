/-
  Groups: a Host of many groups at a tick; its groups.
-/
import Derived.Test.YtjkmkafceeblpaaHg4
set_option linter.unusedVariables false
namespace Go.Proofs.Ytjkmkafceeblpaa
open Go.RowKit

def firedM (now : Int) (m : Gm) : Bool := match m.due with
  | some x => decide (x ≤ now)
  | none => false
def tickM (now : Int) (m : Gm) : Gm := if firedM now m = true then { m with due := none, ours := true } else m
def tickU (gs : List Gm) (k : Nat) (now : Int) : List Gm := (gs.take k).map (tickM now) ++ gs.drop k
def tickO (gs : List Gm) (k : Nat) (now : Int) : List (Int × Int × Int) := ((gs.take k).filter (firedM now)).map fun m => (22, 0, m.a)
theorem tickU_len (gs : List Gm) (k : Nat) (now : Int) : (tickU gs k now).length = gs.length := by
  unfold tickU
  rw [List.length_append, List.length_map, List.length_take, List.length_drop]
  omega
theorem tickU_at {gs : List Gm} {k : Nat} {now : Int} {m : Gm} (h : gs[k]? = some m) : (tickU gs k now)[k]? = some m := by
  have hk := (List.getElem?_eq_some_iff.1 h).1
  unfold tickU
  rw [List.getElem?_append_right (by rw [List.length_map, List.length_take]; omega), List.length_map, List.length_take, Nat.min_eq_left (by omega), Nat.sub_self, List.getElem?_drop, Nat.add_zero, h]
theorem tickU_succ {gs : List Gm} {k : Nat} {now : Int} {m : Gm} (h : gs[k]? = some m) : tickU gs (k + 1) now = (tickU gs k now).set k (tickM now m) := by
  have hk := (List.getElem?_eq_some_iff.1 h).1
  have hl : ((gs.take k).map (tickM now)).length = k := by rw [List.length_map, List.length_take]; omega
  unfold tickU
  rw [List.take_add_one, h, List.set_append, if_neg (by omega), hl, Nat.sub_self, List.map_append]
  have hd : gs.drop k = m :: gs.drop (k + 1) := by
    rw [List.drop_eq_getElem_cons hk]
    rw [List.getElem?_eq_getElem hk] at h
    injection h with h
    rw [h]
  rw [hd, List.set_cons_zero, List.append_assoc]
  rfl
theorem tickU_all (gs : List Gm) (now : Int) : tickU gs gs.length now = gs.map (tickM now) := by
  unfold tickU
  rw [List.take_length, List.drop_length, List.append_nil]
theorem tickO_succ {gs : List Gm} {k : Nat} {now : Int} {m : Gm} (h : gs[k]? = some m) : tickO gs (k + 1) now = tickO gs k now ++ (if firedM now m = true then [(22, 0, m.a)] else []) := by
  unfold tickO
  rw [List.take_add_one, h, Option.toList_some, List.filter_append, List.map_append]
  congr 1
  rw [List.filter_cons]
  split <;> rfl
theorem flatM_app (a b : List (Int × Int × Int)) : flatM (a ++ b) = flatM a ++ flatM b := by simp [flatM]
def TkP (w : World) (B h : Nat) (gs : List Gm) (v : Value) (ms : List (Int × Int × Int)) (e : Ending) (w' : World) : Prop :=
  ∃ V ws, e = .returned V ∧ OutM w w' V ms ∧ IsHg w' B h gs v ws ∧ Below B w w' ∧ KeepT w.heap.size [40, 77] w w'
set_option maxRecDepth 10000 in
set_option maxHeartbeats 3200000 in
theorem tickK (w : World) {B h : Nat} {gs : List Gm} {v : Value} {ws : List Gp} (o : IsHg w B h gs v ws) (hn : gs.length ≤ 16) (now : Int) (hB : B ≤ w.heap.size) :
    Calls Try.prog 15 #[.pointer (some ⟨h, 0, none⟩), .int .i64 now] w fun e w' => TkP w B h (gs.map (tickM now)) v (tickO gs gs.length now) e w' := by
  have HO := Lib.hid o
  have hl := o.mat.len
  obtain ⟨A, c, hv, hnc⟩ := o.own.form
  obtain ⟨n, hnn⟩ : ∃ n, ws.length = n := ⟨_, rfl⟩
  rw [hnn] at hv hnc hl
  subst hv
  have HL := Lib.hid hl
  have hn16 : n ≤ 16 := by omega
  have c0 : w.cell? ⟨h, 0, none⟩ = some (.slice A n c) := o.host.cell 0
  clear o hnn hl hn
  go_enter Try.func15, Try.ntmps15
  go_wp2
  clear c0
  go_loopw [5, 15] (fun l iv wr => ∃ (k : Nat) (wsk : List Gp), iv = .int .i64 k ∧ k ≤ n ∧ Hid (OutM w wr l (tickO gs k now)) ∧ Hid (IsHg wr B h (tickU gs k now) (.slice A n c) wsk) ∧ Hid (Below B w wr) ∧ Hid (KeepT w.heap.size [40, 77] w wr)) (fun _ iv _ => n - (intOf iv).toNat)
  case atStart => exact ⟨0, ws, rfl, Nat.zero_le _, OutM.nil _ _, (by show IsHg w B h (tickU gs 0 now) _ _; rw [show tickU gs 0 now = gs by simp [tickU]]; exact HO.out), rf w |>.mono hB, KeepT.refl⟩
  case round =>
    obtain ⟨k, wsk, rfl, hk, Vk, Ok, Bk, Kk⟩ := hrel
    obtain ⟨ms, hms⟩ : ∃ ms, tickO gs k now = ms := ⟨_, rfl⟩
    rw [hms] at Vk
    have HMS := Lib.hid hms
    obtain ⟨VA, vc, rfl⟩ := own_slice (size := 3) Vk.out
    obtain ⟨q, hq⟩ : ∃ q, ms.length = q := ⟨_, rfl⟩
    have VQ : Hid (wr.ownsRow w.heap.size 27 3 (.slice VA q vc) q (flatM ms)) := by
      have h := Vk.out
      unfold OutM at h
      rw [hq] at h
      exact h
    have hq16 : q ≤ 16 := by
      rw [← hq, ← hms]
      unfold tickO
      rw [List.length_map]
      have h1 := List.length_filter_le (firedM now) (gs.take k)
      rw [List.length_take] at h1
      omega
    have HQ := Lib.hid hq
    rw [hq]
    clear hms hq Vk
    have zk := Bk.out.size
    have ckr : wr.cell? ⟨h, 0, none⟩ = some (.slice A n c) := Ok.out.host.cell 0
    by_cases hkn : k < n
    · have k0 : (0 : Int) ≤ k := by omega
      have k1 : (k : Int) < n := by omega
      obtain ⟨m, hm⟩ : ∃ m, gs[k]? = some m := ⟨_, List.getElem?_eq_getElem (by rw [← HL.out]; exact hkn)⟩
      have hmk : (tickU gs k now)[k]? = some m := tickU_at hm
      obtain ⟨r, hr⟩ := Ok.out.mat.has hmk
      have hra := Ok.out.mat.key hr hmk
      have HP := Lib.hid (Ok.out.mat.at_ k r m hr hmk)
      obtain ⟨g, hA, _, d0, d1, d2⟩ := OwnL.cells Ok.out.own hr
      subst hA
      have hdu : (r.p = none ∧ firedM now m = false) ∨ (∃ y s, r.p = some ⟨s, 0, none⟩ ∧ Blk wr s 3 #[.int .i64 y] ∧ ¬ y ≤ now ∧ firedM now m = false) ∨ (∃ y s, r.p = some ⟨s, 0, none⟩ ∧ Blk wr s 3 #[.int .i64 y] ∧ y ≤ now ∧ firedM now m = true) := by
        have hp := HP.out.2
        unfold firedM
        cases hd : m.due with
        | none => rw [hd] at hp; exact .inl ⟨hp, rfl⟩
        | some y =>
          rw [hd] at hp
          obtain ⟨s, h1, h2⟩ := hp
          by_cases hy : y ≤ now
          · exact .inr (.inr ⟨y, s, h1, h2, hy, by simpa using hy⟩)
          · exact .inr (.inl ⟨y, s, h1, h2, hy, by simpa using hy⟩)
      have hU := tickU_succ (now := now) hm
      have hO := tickO_succ (now := now) hm
      have HMK := Lib.hid hmk
      have HR := Lib.hid hr
      have f1 := Ok.out.fro (k * 3 + 1)
      have f2 := Ok.out.fro (k * 3 + 2)
      clear hm hmk hr
      have stay : firedM now m = false → IsHg wr B h (tickU gs (k + 1) now) (.slice (some ⟨g, 0, none⟩) n c) wsk ∧ tickO gs (k + 1) now = tickO gs k now := fun hf => by
        rw [hU, hO, hf]
        unfold tickM
        rw [hf]
        rw [if_neg (by simp), if_neg (by simp), List.append_nil, set_same _ _ _ HMK.out]
        exact ⟨Ok.out, rfl⟩
      have HST := Lib.hid stay
      have HU := Lib.hid hU
      have HOO := Lib.hid hO
      clear stay hU hO
      rcases hdu with ⟨hp, hf⟩ | ⟨y, s, hp, hs, hy, hf⟩ | ⟨y, s, hp, hs, hy, hf⟩
      · rw [hp] at d1
        have HS := Lib.hid (HST.out hf)
        clear hp hf
        go_wp2
        go_roundw
        case rel => exact ⟨k + 1, wsk, by go_num, by omega, (by show OutM w wr _ (tickO gs (k + 1) now); rw [HS.out.2, HMS.out]; unfold OutM; rw [HQ.out]; exact VQ.out), HS.out.1, Bk.out, Kk.out⟩
        case measure => simp [intOf]; omega
      · rw [hp] at d1
        have cs : wr.cell? ⟨s, 0, none⟩ = some (.int .i64 y) := Blk.cell hs 0
        have HS := Lib.hid (HST.out hf)
        clear hp hf hs
        go_wp2
        go_roundw
        case rel => exact ⟨k + 1, wsk, by go_num, by omega, (by show OutM w wr _ (tickO gs (k + 1) now); rw [HS.out.2, HMS.out]; unfold OutM; rw [HQ.out]; exact VQ.out), HS.out.1, Bk.out, Kk.out⟩
        case measure => simp [intOf]; omega
      · rw [hp] at d1
        have cs : wr.cell? ⟨s, 0, none⟩ = some (.int .i64 y) := Blk.cell hs 0
        have HF := Lib.hid hf
        have s1 := Ok.out.cell HR.out HMK.out 1 (by omega) (.pointer none) (r' := { r with p := none }) (m' := { m with due := none }) rfl rfl rfl HP.out.1 rfl (by omega)
        have hz1 := s1.2.1.size
        have s2 := s1.1.cell (i := k) (r := { r with p := none }) (m := { m with due := none }) (by rw [List.getElem?_set, if_pos rfl, if_pos (List.getElem?_eq_some_iff.1 HR.out).1]) (by rw [List.getElem?_set, if_pos rfl, if_pos (List.getElem?_eq_some_iff.1 HMK.out).1]) 2 (by omega) (.bool true) (r' := { r with p := none, o := true }) (m' := { m with due := none, ours := true }) rfl rfl rfl rfl rfl (by omega)
        rw [List.set_set, List.set_set] at s2
        have O2 : Hid (IsHg ((wr.setCell ⟨g, k * 3 + 1, none⟩ (.pointer none)).setCell ⟨g, k * 3 + 2, none⟩ (.bool true)) B h (tickU gs (k + 1) now) (.slice (some ⟨g, 0, none⟩) n c) (wsk.set k { r with p := none, o := true })) := by
          show IsHg _ _ _ _ _ _
          rw [HU.out]
          unfold tickM
          rw [HF.out, if_pos rfl]
          exact s2.1
        have B2 := Lib.hid ((Bk.out.trans s1.2.1).trans s2.2.1)
        have K2 := Lib.hid ((Kk.out.trans (s1.2.2.less zk)).trans (s2.2.2.less (by omega)))
        have V2 : Hid (World.ownsRow ((wr.setCell ⟨g, k * 3 + 1, none⟩ (.pointer none)).setCell ⟨g, k * 3 + 2, none⟩ (.bool true)) w.heap.size 27 3 (.slice VA q vc) q (flatM ms)) := s2.2.2.own (s1.2.2.own VQ.out (by decide)) (by decide)
        have HMA := Lib.hid hra
        have hz2 := s2.2.1.size
        have HZ2 : Hid (w.heap.size ≤ ((wr.setCell ⟨g, k * 3 + 1, none⟩ (.pointer none)).setCell ⟨g, k * 3 + 2, none⟩ (.bool true)).heap.size) := by show _ ≤ _; omega
        clear hp hf hs s1 s2 hz1 hz2 hra
        go_wp2_with fail
        refine (reportC r.a _).mono ?_
        rintro e w3 ⟨rfl, b3⟩
        have O3 := Lib.hid (O2.out.nx (nx b3 (al (rf w3) (.cells #[.int .i64 22, .int .i64 0, .int .u32 r.a] 27))))
        have V3 := Lib.hid (own_nx V2.out (nx b3 (al (rf w3) (.cells #[.int .i64 22, .int .i64 0, .int .u32 r.a] 27))))
        have hz3 : w.heap.size ≤ (w3.alloc (.cells #[.int .i64 22, .int .i64 0, .int .u32 r.a] 27)).heap.size := by have := b3.size; have := HZ2.out; simp at *; omega
        have B3 := Lib.hid (B2.out.trans ((nx b3 (al (rf w3) (.cells #[.int .i64 22, .int .i64 0, .int .u32 r.a] 27))).mono (by have := HZ2.out; omega)))
        have K3 := Lib.hid (K2.out.trans (KeepT.of_below (nx b3 (al (rf w3) (.cells #[.int .i64 22, .int .i64 0, .int .u32 r.a] 27))) HZ2.out))
        clear b3 ckr d0 d1 d2 cs f1 f2
        go_wp2_with (at_builtin
                     refine app_any stM rfl (.tmp 45) (.tmp 51) rfl w.heap.size (.slice VA q vc) q (flatM ms) rfl V3.out (some ⟨w3.heap.size, 0, none⟩) 1 1 [.int .i64 22, .int .i64 0, .int .u32 r.a] rfl ⟨rfl, fun _ => ⟨_, rfl, by simp, fun j u hj => ?cs⟩⟩ (by intro u hu; simp at hu; rcases hu with rfl | rfl | rfl <;> rfl) (by omega) (by omega) hz3 ?_
                     case cs => (match j, hj with | 0, hj => (cases hj; exact (Blk.new w3 _ _).cell 0) | 1, hj => (cases hj; exact (Blk.new w3 _ _).cell 1) | 2, hj => (cases hj; exact (Blk.new w3 _ _).cell 2))
                     intro v4 w4 own4 gr4 at4 bel4
                     obtain ⟨A4, c4, rfl⟩ := own_slice own4)
        have k4 : KeepT (w3.alloc (.cells #[.int .i64 22, .int .i64 0, .int .u32 r.a] 27)).heap.size [27] (w3.alloc (.cells #[.int .i64 22, .int .i64 0, .int .u32 r.a] 27)) w4 := KeepT.of_row gr4 V3.out (.inr (by simp)) (Nat.le_refl _)
        have k4' : KeepT w.heap.size [40, 77] (w3.alloc (.cells #[.int .i64 22, .int .i64 0, .int .u32 r.a] 27)) w4 := KeepT.of_row gr4 V3.out (.inl (Nat.le_refl _)) hz3
        have O4 := Lib.hid (O3.out.keep k4 (by decide) (by decide) (by decide))
        have B4 := Lib.hid (B3.out.trans (bel4.mono hB))
        have K4 := Lib.hid (K3.out.trans k4')
        have V4 : Hid (OutM w w4 (.slice A4 (q + 1) c4) (tickO gs (k + 1) now)) := by
          show OutM _ _ _ _
          rw [HOO.out, HF.out, if_pos rfl, HMS.out]
          unfold OutM
          rw [flatM_app, List.length_append, HQ.out, ← HMA.out]
          exact own4
        clear own4 gr4 at4 bel4 k4 k4'
        go_wp2
        go_roundw
        case rel => exact ⟨k + 1, _, by go_num, by omega, V4.out, O4.out, B4.out, K4.out⟩
        case measure => simp [intOf]; omega
    · obtain rfl : k = n := by omega
      have hE : TkP w B h (gs.map (tickM now)) (.slice A k c) (tickO gs gs.length now) (.returned (.slice VA q vc)) wr := by
        rw [← tickU_all, ← HL.out]
        exact ⟨_, _, rfl, (by rw [HMS.out]; unfold OutM; rw [HQ.out]; exact VQ.out), Ok.out, Bk.out, Kk.out⟩
      have HEE := Lib.hid hE
      clear hE
      go_wp2
      go_ret
      exact HEE.out
theorem stAd : SliceTy Try.prog 36 25 1 4 (.int .u32 0) := ⟨Try.underlying36, by kernel_rfl, rfl, by omega⟩
def addrC (l : List Int) : List Value := l.map (Value.int .u32)
def OutA (w w' : World) (V : Value) (l : List Int) : Prop := w'.ownsRow w.heap.size 25 1 V l.length (addrC l)
theorem OutA.nil (w w' : World) : OutA w w' (.slice none 0 0) [] := World.ownsRow_nil _ _ _ _
set_option maxRecDepth 10000 in
set_option maxHeartbeats 3200000 in
theorem groupsK (w : World) {B h : Nat} {gs : List Gm} {v : Value} {ws : List Gp} (o : IsHg w B h gs v ws) (hn : gs.length ≤ 16) :
    Calls Try.prog 22 #[.pointer (some ⟨h, 0, none⟩)] w fun e w' => ∃ V, e = .returned V ∧ OutA w w' V (keysG gs) ∧ Below w.heap.size w w' := by
  have HO := Lib.hid o
  have hl := o.mat.len
  obtain ⟨A, c, hv, hnc⟩ := o.own.form
  obtain ⟨n, hnn⟩ : ∃ n, ws.length = n := ⟨_, rfl⟩
  rw [hnn] at hv hnc hl
  subst hv
  have HL := Lib.hid hl
  have hn16 : n ≤ 16 := by omega
  have c0 : w.cell? ⟨h, 0, none⟩ = some (.slice A n c) := o.host.cell 0
  clear o hnn hl hn
  go_enter Try.func22, Try.ntmps22
  go_wp2
  clear c0
  go_loopw [3, 13] (fun l iv wr => ∃ (k : Nat), iv = .int .i64 k ∧ k ≤ n ∧ Hid (OutA w wr l ((keysG gs).take k)) ∧ Hid (Below w.heap.size w wr)) (fun _ iv _ => n - (intOf iv).toNat)
  case atStart => exact ⟨0, rfl, Nat.zero_le _, OutA.nil _ _, rf w⟩
  case round =>
    obtain ⟨k, rfl, hk, Vk, Bk⟩ := hrel
    obtain ⟨ks, hks⟩ : ∃ ks, (keysG gs).take k = ks := ⟨_, rfl⟩
    rw [hks] at Vk
    have HKS := Lib.hid hks
    obtain ⟨VA, vc, rfl⟩ := own_slice (size := 1) Vk.out
    have hq : ks.length = k := by rw [← hks, List.length_take, keysG, List.length_map, ← HL.out]; omega
    have VQ : Hid (wr.ownsRow w.heap.size 25 1 (.slice VA k vc) k (addrC ks)) := by
      have h := Vk.out
      unfold OutA at h
      rw [hq] at h
      exact h
    have HQ := Lib.hid hq
    rw [hq]
    clear hks hq Vk
    have Ok := Lib.hid (HO.out.nx Bk.out)
    have zk := Bk.out.size
    by_cases hkn : k < n
    · have k0 : (0 : Int) ≤ k := by omega
      have k1 : (k : Int) < n := by omega
      obtain ⟨m, hm⟩ : ∃ m, gs[k]? = some m := ⟨_, List.getElem?_eq_getElem (by rw [← HL.out]; exact hkn)⟩
      obtain ⟨r, hr⟩ := Ok.out.mat.has hm
      have hra := Ok.out.mat.key hr hm
      obtain ⟨g, hA, _, d0, d1, d2⟩ := OwnL.cells Ok.out.own hr
      subst hA
      have hT : (keysG gs).take (k + 1) = ks ++ [r.a] := by
        rw [List.take_add_one, HKS.out, show (keysG gs)[k]? = some r.a by unfold keysG; rw [List.getElem?_map, hm, hra]; rfl]
        rfl
      have HT := Lib.hid hT
      have V3 := Lib.hid (fun (o1 o2 : Obj) => own_nx VQ.out (al (al (rf wr) o1) o2))
      have B3 := Lib.hid (fun (o1 o2 : Obj) => (Bk.out.alloc zk o1).alloc (by simp; omega) o2)
      have V4 := Lib.hid (V3.out (.cells #[.int .u32 r.a, .pointer r.p, .bool r.o] 77) (.cells #[.int .u32 r.a] 25))
      have B4 := Lib.hid (B3.out (.cells #[.int .u32 r.a, .pointer r.p, .bool r.o] 77) (.cells #[.int .u32 r.a] 25))
      have z4 := B4.out.size
      clear hm hr hra hT
      go_wp2_with (at_builtin
                   refine app_any stAd rfl (.tmp 17) (.tmp 20) rfl w.heap.size (.slice VA k vc) k (addrC ks) rfl V4.out _ 1 1 [.int .u32 r.a] rfl (Reads.one (blk_at _ _ _ ?b8)) (by simp [Value.oneCell']) (by omega) (by omega) z4 ?_
                   case b8 => simp
                   intro v5 w5 own5 gr5 at5 bel5
                   obtain ⟨A5, c5, rfl⟩ := own_slice own5)
      have VN : Hid (OutA w w5 (.slice A5 (k + 1) c5) ((keysG gs).take (k + 1))) := by
        show OutA _ _ _ _
        rw [HT.out]
        unfold OutA addrC
        rw [List.length_append, HQ.out, List.map_append]
        exact own5
      have BN := Lib.hid (B4.out.trans bel5)
      clear own5 gr5 at5 bel5 d0 d1 d2
      go_wp2
      go_roundw
      case rel => exact ⟨k + 1, by go_num, by omega, VN.out, BN.out⟩
      case measure => simp [intOf]; omega
    · obtain rfl : k = n := by omega
      have hE : OutA w wr (.slice VA k vc) (keysG gs) := by
        have h1 : (keysG gs).take k = keysG gs := List.take_of_length_le (by unfold keysG; rw [List.length_map, ← HL.out]; omega)
        have h2 := HKS.out
        rw [h1] at h2
        rw [h2]
        unfold OutA
        rw [HQ.out]
        exact VQ.out
      have HEE := Lib.hid hE
      clear hE
      go_wp2
      go_ret
      exact ⟨_, rfl, HEE.out, Bk.out⟩
end Go.Proofs.Ytjkmkafceeblpaa
