/-
  Names: the reference's Encode, its building part. Printed by gen_nmtl.py.
-/
import Derived.Test.YtlojbnnmlpfnbaaDoorNmEn
set_option linter.unusedVariables false
namespace Go.Proofs.YtlojbnnmlpfnbaaDoor
open Go.RowKit

theorem h6_bytes (M : Ms) : Lib.byteCells (beB M.id.toNat 2 ++ beB M.fl.toNat 2) ++ Lib.byteCells (beB (M.q.length : Int).toNat 2) ++ Lib.byteCells (beB (M.a.length : Int).toNat 2) ++ [.int .u8 0, .int .u8 0, .int .u8 0, .int .u8 0] = Lib.byteCells ((h6 M).flatMap fun v => beB v.toNat 2) := by
  have e0 : ([.int .u8 0, .int .u8 0, .int .u8 0, .int .u8 0] : List Value) = Lib.byteCells (beB (0 : Int).toNat 2 ++ beB (0 : Int).toNat 2) := rfl
  have e1 : (h6 M).flatMap (fun v => beB v.toNat 2) = beB M.id.toNat 2 ++ beB M.fl.toNat 2 ++ beB (M.q.length : Int).toNat 2 ++ beB (M.a.length : Int).toNat 2 ++ (beB (0 : Int).toNat 2 ++ beB (0 : Int).toNat 2) := by
    unfold h6
    simp only [List.flatMap_cons, List.flatMap_nil, List.append_nil, List.append_assoc]
  rw [e0, e1, ← byteCells_app, ← byteCells_app, ← byteCells_app]
def isR (n : Nat) : Code → Bool
  | .region m _ _ => m == n
  | _ => false
def fromR (n : Nat) : Code → Option Code
  | .seq a b => if isR n a then some (.seq a b) else match fromR n a with
    | some c => some c
    | none => fromR n b
  | .loop c => fromR n c
  | .block _ c => fromR n c
  | .scope c => fromR n c
  | .cond _ a b => match fromR n a with
    | some c => some c
    | none => fromR n b
  | _ => none
noncomputable def rtailC : Code := ((Tryd.f15.body.bind (fromR 36)).getD .skip)
theorem own_bytes {w : World} {base : Nat} {A : Option Addr} {n c : Nat} {l : List UInt8} (h : w.ownsRow base 5 1 (.slice A n c) n (Lib.byteCells l)) : n = l.length ∧ Bytes w A l := by
  have e : n = l.length := by have := h.1; rw [byteCells_len] at this; omega
  subst e
  exact ⟨rfl, Bytes.own h⟩
structure OwK (w : World) (base : Nat) (v : Value) (L : List UInt8) (Kp : List (Nat × TypeId × Array Value)) : Prop where
  own : w.ownsRow base 5 1 v L.length (Lib.byteCells L)
  kp : ∀ p ∈ Kp, Blk w p.1 p.2.1 p.2.2
  ne : ∀ p ∈ Kp, v.ownBlock ≠ some p.1
theorem OwK.nx {w w' : World} {base : Nat} {v : Value} {L : List UInt8} {Kp : List (Nat × TypeId × Array Value)} (h : OwK w base v L Kp) (k : Below w.heap.size w w') : OwK w' base v L Kp :=
  ⟨own_nx h.own k, fun p hp => (h.kp p hp).nx k, h.ne⟩
theorem OwK.add {w : World} {base : Nat} {v : Value} {L : List UInt8} {Kp : List (Nat × TypeId × Array Value)} (h : OwK w base v L Kp) {g : Nat} {t : TypeId} {cs : Array Value} (hb : Blk w g t cs) (hn : v.ownBlock ≠ some g) : OwK w base v L ((g, t, cs) :: Kp) :=
  ⟨h.own, by intro p hp; rcases List.mem_cons.1 hp with e | hp; (rw [e]; exact hb); exact h.kp p hp, by intro p hp; rcases List.mem_cons.1 hp with e | hp; (rw [e]; exact hn); exact h.ne p hp⟩
theorem OwK.box {w : World} {base : Nat} {v : Value} {L : List UInt8} {Kp : List (Nat × TypeId × Array Value)} (h : OwK w base v L Kp) (cs : Array Value) (t : TypeId) : OwK (w.alloc (.cells cs t)) base v L ((w.heap.size, t, cs) :: Kp) :=
  (h.nx (al (rf w) _)).add (Blk.new w t cs) (fun e => absurd (h.own.lt _ e).2 (by omega))
theorem OwK.drop {w : World} {base : Nat} {v : Value} {L : List UInt8} {Kp : List (Nat × TypeId × Array Value)} (h : OwK w base v L Kp) : OwK w base v L [] := ⟨h.own, by simp, by simp⟩
theorem OwK.grow {w w' : World} {base : Nat} {v v' : Value} {L D : List UInt8} {Kp : List (Nat × TypeId × Array Value)} (h : OwK w base v L Kp) (own : w'.ownsRow base 5 1 v' (L.length + D.length) (Lib.byteCells L ++ Lib.byteCells D)) (gr : w.grownBy w' v.ownBlock) (at_ : v'.ownBlock = v.ownBlock ∨ v'.ownBlock = some w.heap.size) : OwK w' base v' (L ++ D) Kp :=
  ⟨by rw [List.length_append, byteCells_app]; exact own, fun p hp => (h.kp p hp).grown gr (fun e => h.ne p hp e.symm), fun p hp => by
    rcases at_ with e | e
    · rw [e]; exact h.ne p hp
    · rw [e]; intro e2; injection e2 with e2; have := (h.kp p hp).lt; omega⟩
theorem OwK.any {ops : Array Oper} {rest : List Oper} {o : Oper} {a : Act} {w : World} {Q : Exit → Act → World → Prop} (hgd : o.guard = none) (s x : Operand)
    (ho : o.op = .call { callee := .builtin .append, args := #[s, x], argTypes := #[22, 22] }) {base : Nat} (v : Value) (L : List UInt8) {Kp : List (Nat × TypeId × Array Value)} (hs : a.eval s = v) (h : OwK w base v L Kp)
    (A : Option Addr) (m c : Nat) (D : List UInt8) (hm : m = D.length) (hx : a.eval x = .slice A m c) (hr : Bytes w A D) (hlen : L.length + D.length ≤ 1073741824) (hbase : base ≤ w.heap.size)
    (k : ∀ A' k' w', OwK w' base (.slice A' (L ++ D).length k') (L ++ D) Kp → Below base w w' → wpList Tryd.prog ops Q rest (a.put o.dst (.slice A' (L ++ D).length k')) w') : wpList Tryd.prog ops Q (o :: rest) a w := by
  subst hm
  refine app_any stB hgd s x ho base v L.length (Lib.byteCells L) hs h.own A D.length c (Lib.byteCells D) hx hr (one_u8 _) (by omega) (by omega) hbase ?_
  intro v' w' own gr at_ bel
  obtain ⟨A', k', rfl⟩ := own_slice own
  have e : (L ++ D).length = L.length + D.length := List.length_append
  rw [← e] at own ⊢
  exact k A' k' w' (h.grow (by rw [← e]; exact own) gr (by simpa using at_)) bel
theorem OwK.step {ops : Array Oper} {o : Oper} {a : Act} {K : Act → World → Prop} {Q : Exit → Act → World → Prop} {X : Prop} {w : World} (hgd : o.guard = none) (s x : Operand)
    (ho : o.op = .call { callee := .builtin .append, args := #[s, x], argTypes := #[22, 22] }) {base : Nat} (v : Value) (L : List UInt8) {Kp : List (Nat × TypeId × Array Value)} (hs : a.eval s = v) (h : OwK w base v L Kp)
    (A : Option Addr) (m c : Nat) (D : List UInt8) (hm : m = D.length) (hx : a.eval x = .slice A m c) (hr : Bytes w A D) (hlen : L.length + D.length ≤ 1073741824) (hbase : base ≤ w.heap.size)
    (k : ∀ A' k' w', OwK w' base (.slice A' (L ++ D).length k') (L ++ D) Kp → Below base w w' → K (a.put o.dst (.slice A' (L ++ D).length k')) w') :
    if Region.wanted o (yielded ops a.tmps) = true then Oper.wp Tryd.prog o a w K Q else X := by
  subst hm
  refine step_app stB hgd s x ho base v L.length (Lib.byteCells L) hs h.own A D.length c (Lib.byteCells D) hx hr (one_u8 _) (by omega) (by omega) hbase ?_
  intro v' w' own gr at_ bel
  obtain ⟨A', k', rfl⟩ := own_slice own
  have e : (L ++ D).length = L.length + D.length := List.length_append
  rw [← e] at own ⊢
  exact k A' k' w' (h.grow (by rw [← e]; exact own) gr (by simpa using at_)) bel
theorem own_kept {w : World} {base : Nat} {A : Option Addr} {n c : Nat} {D : List UInt8} (h : w.ownsRow base 5 1 (.slice A n c) n (Lib.byteCells D)) (hn : 0 < n) : ∃ g cur, A = some ⟨g, 0, none⟩ ∧ base ≤ g ∧ Blk w g 5 cur ∧ cur.toList.take n = Lib.byteCells D := by
  obtain ⟨g, cap, e, h1, _, _, _, cur, hb, _, ht⟩ := own_form h hn
  injection e with e1 e2 e3
  exact ⟨g, cur, e1, h1, hb, ht⟩
theorem kept_bytes {w : World} {g : Nat} {cur : Array Value} {D : List UInt8} (h : Blk w g 5 cur) (ht : cur.toList.take D.length = Lib.byteCells D) : Bytes w (some ⟨g, 0, none⟩) D :=
  ⟨by rw [byteCells_len, Nat.mul_one], fun _ => ⟨_, rfl, h.lt, fun j u hu => by
    have hj : j < D.length := by have := (List.getElem?_eq_some_iff.1 hu).1; rw [byteCells_len] at this; exact this
    rw [Addr.add_mid, Nat.zero_add, h.cell j, ← ht, List.getElem?_take, if_pos hj] at *
    simpa using hu⟩⟩
theorem wrap_u32 (x : Int) (h0 : 0 ≤ x) (h1 : x ≤ 4294967295) : (IntKind.u32).wrap x = x := IntWalk.u32_in _ (by omega)
theorem len_app {L H K : List UInt8} {n : Nat} (h : L ++ H = K) (hn : H.length ≤ n) : K.length ≤ L.length + n := by
  subst h; rw [List.length_append]; omega
theorem beB_four (v : Int) (h0 : 0 ≤ v) (h1 : v ≤ 4294967295) : Lib.byteCells (beB v.toNat 4) = [.int .u8 (v / 16777216), .int .u8 (v / 65536 % 256), .int .u8 (v / 256 % 256), .int .u8 (v % 256)] := by
  have e1 : ((UInt8.ofNat (v.toNat / 256 ^ 3 % 256)).toNat : Int) = v / 16777216 := by simp only [Nat.reducePow, UInt8.toNat_ofNat']; omega
  have e2 : ((UInt8.ofNat (v.toNat / 256 ^ 2 % 256)).toNat : Int) = v / 65536 % 256 := by simp only [Nat.reducePow, UInt8.toNat_ofNat']; omega
  have e3 : ((UInt8.ofNat (v.toNat / 256 ^ 1 % 256)).toNat : Int) = v / 256 % 256 := by simp only [Nat.reducePow, UInt8.toNat_ofNat']; omega
  have e4 : ((UInt8.ofNat (v.toNat / 256 ^ 0 % 256)).toNat : Int) = v % 256 := by simp only [Nat.reducePow, UInt8.toNat_ofNat']; omega
  simp only [beB, Lib.byteCells, List.map_cons, List.map_nil, e1, e2, e3, e4]
theorem rfourN (w : World) (v : Int) (h0 : 0 ≤ v) (h1 : v ≤ 4294967295) :
    Calls Tryd.prog 35 #[.int .u32 v] w fun e w' => ∃ g, e = .returned (.slice (some ⟨g, 0, none⟩) 4 4) ∧ Bytes w' (some ⟨g, 0, none⟩) (beB v.toNat 4) ∧ Below w.heap.size w w' := by
  have b1 : v / 16777216 ≤ 255 := by omega
  have b0 : 0 ≤ v / 16777216 := by omega
  have hown := own_lit (base := w.heap.size) (e := 5) (size := 1) w #[.int .u8 (v / 16777216), .int .u8 (v / 65536 % 256), .int .u8 (v / 256 % 256), .int .u8 (v % 256)] 4 rfl (Nat.le_refl _) (by unfold maxLen; omega) rfl
  have HE := Lib.hid (beB_four v h0 h1)
  have HO := Lib.hid hown; clear hown
  go_enter Tryd.func35, Tryd.ntmps35
  go_wp2
  go_ret
  refine ⟨_, rfl, (own_bytes (base := w.heap.size) (n := 4) (c := 4) ?_).2, al (rf w) _⟩
  rw [HE.out]
  exact HO.out
set_option maxRecDepth 1000000 in
set_option maxHeartbeats 12800000 in
theorem rtail (w wz w8 : World) (M : Ms) (Qa Aa : Option Addr) (g : Nat) (A8 : Option Addr) (k8 : Nat) (HQA : Hid (M.Q = Qa)) (HAA : Hid (M.A = Aa)) (HM : Hid (IsM wz M))
    (X : Hid (Blk wz g 36 #[.int .i64 M.id, .int .i64 M.fl, .slice Qa M.q.length M.n, .slice Aa M.a.length M.m])) (HBW : Hid (Below w.heap.size w wz)) (B8 : Hid (Below wz.heap.size wz w8))
    (OW8 : Hid (w8.ownsRow wz.heap.size 5 1 (.slice A8 8 k8) 8 (Lib.byteCells (beB M.id.toNat 2 ++ beB M.fl.toNat 2) ++ Lib.byteCells (beB (M.q.length : Int).toNat 2) ++ Lib.byteCells (beB (M.a.length : Int).toNat 2)))) (HZ : Hid (wrongI M = 0)) (OK : Hid (MOk M))
    (s0 s2 s3 s4 s5 s6 s7 s8 s9 s10 s12 s13 s14 s15 s16 s17 s18 s19 s20 s21 s22 s23 s24 s25 s26 s27 s28 s29 s30 s31 s32 s33 s34 s35 s36 s37 s38 s39 s40 s41 s42 s43 s44 s45 s46 s47 s48 s49 s50 s51 s52 s53 s54 s55 s56 s57 s58 s59 s60 s61 s62 s63 s64 s65 s66 s67 s68 s69 s70 s71 s72 s73 s74 s75 s76 s77 s78 s79 s80 s81 s82 s83 s84 s85 s86 s87 s88 s89 s90 s91 s92 s93 s94 s95 s96 s97 s98 s99 s100 s101 s102 s103 s104 s105 s106 s107 s108 s109 s110 s111 s112 s113 s114 s115 s116 s117 s118 s119 s120 s121 s122 s123 s124 s125 s126 s127 s128 s129 s130 s131 s132 s133 s134 s135 s136 s137 s138 s139 s140 s141 s142 s143 s144 s145 s146 s147 s148 s149 s150 s151 s152 s153 s154 s155 s156 s157 s158 s159 s160 s161 s162 s163 s164 s165 s166 s167 s168 s169 s170 s171 s172 s173 s174 s175 s176 s177 s178 s179 s180 s181 s182 s183 s184 s185 s186 s187 s188 s189 s190 s191 s192 s193 s194 s195 s196 s197 s198 s199 s200 s201 s202 s203 s204 s205 s206 s207 s208 s209 s210 s211 s212 s213 s214 s215 s216 s217 s218 s219 s220 s221 s222 s223 s224 s225 s226 s227 s228 s229 s230 s231 s232 : Value) : Code.wp Tryd.prog rtailC (bodyPost Tryd.prog Tryd.f15 (EncP M w)) { tmps := #[s0, .pointer (some ⟨g, 0, none⟩), s2, s3, s4, s5, s6, s7, s8, s9, s10, .slice A8 8 k8, s12, s13, s14, s15, s16, s17, s18, s19, s20, s21, s22, s23, s24, s25, s26, s27, s28, s29, s30, s31, s32, s33, s34, s35, s36, s37, s38, s39, s40, s41, s42, s43, s44, s45, s46, s47, s48, s49, s50, s51, s52, s53, s54, s55, s56, s57, s58, s59, s60, s61, s62, s63, s64, s65, s66, s67, s68, s69, s70, s71, s72, s73, s74, s75, s76, s77, s78, s79, s80, s81, s82, s83, s84, s85, s86, s87, s88, s89, s90, s91, s92, s93, s94, s95, s96, s97, s98, s99, s100, s101, s102, s103, s104, s105, s106, s107, s108, s109, s110, s111, s112, s113, s114, s115, s116, s117, s118, s119, s120, s121, s122, s123, s124, s125, s126, s127, s128, s129, s130, s131, s132, s133, s134, s135, s136, s137, s138, s139, s140, s141, s142, s143, s144, s145, s146, s147, s148, s149, s150, s151, s152, s153, s154, s155, s156, s157, s158, s159, s160, s161, s162, s163, s164, s165, s166, s167, s168, s169, s170, s171, s172, s173, s174, s175, s176, s177, s178, s179, s180, s181, s182, s183, s184, s185, s186, s187, s188, s189, s190, s191, s192, s193, s194, s195, s196, s197, s198, s199, s200, s201, s202, s203, s204, s205, s206, s207, s208, s209, s210, s211, s212, s213, s214, s215, s216, s217, s218, s219, s220, s221, s222, s223, s224, s225, s226, s227, s228, s229, s230, s231, s232], defers := [] } w8 := by
  unfold rtailC
  conv => arg 2; whnf
  obtain ⟨pre, hpre⟩ : ∃ pre, pre = (h6 M).flatMap fun v => beB v.toNat 2 := ⟨_, rfl⟩
  have hpl : pre.length = 12 := by rw [hpre, flat2_len]; rfl
  have e8 := h6_bytes M
  rw [← hpre] at e8
  have E8 := Lib.hid e8
  clear e8
  have HPRE := Lib.hid hpre
  clear hpre
  have hql := OK.out.ql
  have hal := OK.out.al
  have hz8 := B8.out.size
  have hx := X.out.lt
  have C2 : Hid (∀ ws, Below wz.heap.size wz ws → ws.cell? ⟨g, 2, none⟩ = some (.slice Qa M.q.length M.n)) := fun ws h => (X.out.nx h).cell 2
  have C3 : Hid (∀ ws, Below wz.heap.size wz ws → ws.cell? ⟨g, 3, none⟩ = some (.slice Aa M.a.length M.m)) := fun ws h => (X.out.nx h).cell 3
  have HR4 : Hid (Reads (w8.alloc (.cells #[.int .u8 0, .int .u8 0, .int .u8 0, .int .u8 0] 5)) (w8.alloc (.cells #[.int .u8 0, .int .u8 0, .int .u8 0, .int .u8 0] 5)).heap.size 1 (some ⟨w8.heap.size, 0, none⟩) 4 [.int .u8 0, .int .u8 0, .int .u8 0, .int .u8 0]) := Reads.blk (Blk.new w8 _ _) rfl rfl
  have HO4 : Hid (∀ u ∈ ([.int .u8 0, .int .u8 0, .int .u8 0, .int .u8 0] : List Value), u.oneCell' = true) := by intro u hu; simp at hu; rw [hu]; rfl
  have HS4 : Hid (wz.heap.size ≤ (w8.alloc (.cells #[.int .u8 0, .int .u8 0, .int .u8 0, .int .u8 0] 5)).heap.size) := by show _ ≤ _; simp; omega
  have OW8' := Lib.hid (OW8.out.alloc (.cells #[.int .u8 0, .int .u8 0, .int .u8 0, .int .u8 0] 5))
  go_wp2_with (at_builtin; refine app_any stB rfl (.tmp 174) (.tmp 175) rfl wz.heap.size (.slice A8 8 k8) 8 _ rfl OW8'.out (some ⟨w8.heap.size, 0, none⟩) 4 4 [.int .u8 0, .int .u8 0, .int .u8 0, .int .u8 0] rfl HR4.out HO4.out (by decide) (by decide) HS4.out ?_; intro v9 w9 own9 gr9 at9 bel9; obtain ⟨A9, k9, rfl⟩ := own_slice own9)
  rw [E8.out] at own9
  have B9 : Hid (Below wz.heap.size wz w9) := (B8.out.alloc hz8 _).trans bel9
  have O9 : Hid (w9.ownsRow wz.heap.size 5 1 (.slice A9 12 k9) 12 (Lib.byteCells pre)) := own9
  clear own9 gr9 at9 bel9 HR4 HO4 HS4 OW8' OW8 E8 B8 hz8
  go_loopw [11, 12] (fun tv kv ws => ∃ (k : Nat) (A : Option Addr) (c : Nat) (L : List UInt8), tv = .slice A L.length c ∧ kv = .int .i64 k ∧ k ≤ M.q.length ∧ Hid (L = pre ++ (M.q.take k).flatMap qB) ∧ Hid (ws.ownsRow wz.heap.size 5 1 (.slice A L.length c) L.length (Lib.byteCells L)) ∧ Hid (Below wz.heap.size wz ws)) (fun _ kv _ => M.q.length - (intOf kv).toNat)
  case atStart => exact ⟨0, A9, k9, pre, by rw [hpl], rfl, by omega, by show _ = _; rw [List.take_zero, List.flatMap_nil, List.append_nil], by rw [hpl]; exact O9.out, B9.out⟩
  case round =>
    obtain ⟨k, A, c, L, rfl, rfl, hk, HL, OW, HB⟩ := hrel
    have hLl : L.length ≤ 12 + 64 * 3265 := by
      have h1 := flat_len (l := M.q.take k) (f := qB) (fun r hr => Nat.le_trans (qB_len (OK.out.q r (List.mem_of_mem_take hr))) (by omega))
      have h2 : (M.q.take k).length ≤ 64 := by rw [List.length_take]; omega
      rw [HL.out, List.length_append, hpl]; omega
    by_cases hlt : k < M.q.length
    · skip
      obtain ⟨r, hr⟩ : ∃ r, M.q[k]? = some r := ⟨_, List.getElem?_eq_getElem hlt⟩
      obtain ⟨ad, hAd, hadb, hcell⟩ := rows_rc (HM.out.nx HB.out).q hr
      rw [HQA.out] at hAd
      subst hAd
      have HCELL : Hid (∀ j u, ([.string r.nm, .int .i64 r.t, .int .i64 r.c, .int .i64 r.u, .slice r.A r.da.length r.k] : List Value)[j]? = some u → wr.cell? ((ad.add (k * 5)).add j) = some u) := hcell
      have HRC := Lib.hid hr
      have HT := Lib.hid (take_flat (f := qB) hr)
      have k1 : (k : Int) < M.q.length := by omega
      have k0 : (0 : Int) ≤ k := by omega
      have e2 := C2.out _ HB.out
      clear hcell hr hadb
      have HRK := Lib.hid (OK.out.q r (List.mem_of_getElem? HRC.out))
      have hn3 := ((HM.out.nx HB.out).qr r (List.mem_of_getElem? HRC.out)).2.2.2
      go_wp2_with (with_reducible refine wpList_load_any rfl 43 (.tmp 188) rfl (ad.add (k * 5)) (by kernel_rfl) [.string r.nm, .int .i64 r.t, .int .i64 r.c, .int .i64 r.u, .slice r.A r.da.length r.k] _ HCELL.out Tryd.underlying43 (by kernel_rfl) (by kernel_rfl) ?_)
      refine (nmHeadR _ r.nm r.t r.c r.u (.slice r.A r.da.length r.k) (by omega) HRK.out.nm HRK.out.t0 HRK.out.t1 HRK.out.c0 HRK.out.c1).mono ?_
      rintro e w3 ⟨Ah, kh, rfl, oh, b3⟩
      have HB3 := Lib.hid (HB.out.trans (b3.mono HB.out.size))
      have hq9 := qB_len HRK.out
      obtain ⟨H, hH⟩ : ∃ H, hdB r.nm.data.toList r.t r.c = H := ⟨_, rfl⟩
      rw [hH] at oh ⊢
      have hHl : H.length ≤ 259 := by rw [← hH]; exact hq9
      have OH := Lib.hid (Bytes.own oh)
      have OW3 := Lib.hid (own_nx OW.out b3)
      have HLN : Hid (L ++ H = pre ++ (M.q.take (k + 1)).flatMap qB) := by show _ = _; rw [← HT.out, HL.out, ← hH, List.append_assoc]; rfl
      have hs3 := HB3.out.size
      clear oh b3 hH hq9 hn3 e2
      go_wp2_with (at_builtin; refine app_any stB rfl (.tmp 184) (.tmp 190) rfl wz.heap.size (.slice A L.length c) L.length _ rfl OW3.out Ah H.length kh (Lib.byteCells H) rfl OH.out (one_u8 _) (by omega) (by omega) hs3 ?_; intro v4 w4 own4 gr4 at4 bel4; obtain ⟨A4, k4, rfl⟩ := own_slice own4)
      have OW4 : Hid (w4.ownsRow wz.heap.size 5 1 (.slice A4 (L ++ H).length k4) (L ++ H).length (Lib.byteCells (L ++ H))) := by rw [List.length_append, byteCells_app]; exact own4
      have HB4 := Lib.hid (HB3.out.trans bel4)
      clear own4 gr4 at4 bel4
      go_wp2
      go_roundw
      case rel =>
        exact ⟨k + 1, A4, k4, L ++ H, by rw [List.length_append], by go_num, by omega, HLN.out, OW4.out, HB4.out⟩
      case measure => simp [intOf]; omega
    · skip
      have hkk : k = M.q.length := by omega
      have HL2 : Hid (L = pre ++ M.q.flatMap qB) := by show _ = _; rw [HL.out, hkk, List.take_length]
      have e2 := C2.out _ HB.out
      have OWp := Lib.hid OW.out
      have HBp := Lib.hid HB.out
      go_wp2
      clear e2 HL OW HB hlt hkk hk O9 B9 hpl
      obtain ⟨pq, hpq⟩ : ∃ pq, L = pq := ⟨_, rfl⟩
      have HPQ := Lib.hid hpq
      rw [hpq] at OWp HL2 hLl ⊢
      clear hpq HPQ
      go_loopw [11, 13] (fun tv kv ws => ∃ (k : Nat) (A : Option Addr) (c : Nat) (L : List UInt8), tv = .slice A L.length c ∧ kv = .int .i64 k ∧ k ≤ M.a.length ∧ Hid (L = pq ++ (M.a.take k).flatMap aB) ∧ Hid (ws.ownsRow wz.heap.size 5 1 (.slice A L.length c) L.length (Lib.byteCells L)) ∧ Hid (Below wz.heap.size wz ws)) (fun _ kv _ => M.a.length - (intOf kv).toNat)
      case atStart => exact ⟨0, A, c, pq, rfl, rfl, by omega, by show _ = _; rw [List.take_zero, List.flatMap_nil, List.append_nil], OWp.out, HBp.out⟩
      case round =>
        clear OWp HBp
        obtain ⟨k, A, c, L, rfl, rfl, hk, HL, OW, HB⟩ := hrel
        have hLm : L.length ≤ 12 + 64 * 3265 + 64 * 3265 := by
          have h1 := flat_len (l := M.a.take k) (f := aB) (fun r hr => aB_len (OK.out.a r (List.mem_of_mem_take hr)) (HM.out.ar r (List.mem_of_mem_take hr)).2.2.1)
          have h2 : (M.a.take k).length ≤ 64 := by rw [List.length_take]; omega
          rw [HL.out, List.length_append]; omega
        by_cases hlt : k < M.a.length
        · skip
          obtain ⟨r, hr⟩ : ∃ r, M.a[k]? = some r := ⟨_, List.getElem?_eq_getElem hlt⟩
          obtain ⟨ad, hAd, hadb, hcell⟩ := rows_rc (HM.out.nx HB.out).a hr
          rw [HAA.out] at hAd
          subst hAd
          have HCELL : Hid (∀ j u, ([.string r.nm, .int .i64 r.t, .int .i64 r.c, .int .i64 r.u, .slice r.A r.da.length r.k] : List Value)[j]? = some u → wr.cell? ((ad.add (k * 5)).add j) = some u) := hcell
          have HRC := Lib.hid hr
          have HT := Lib.hid (take_flat (f := aB) hr)
          have k1 : (k : Int) < M.a.length := by omega
          have k0 : (0 : Int) ≤ k := by omega
          have e3 := C3.out _ HB.out
          clear hcell hr hadb
          have HRK := Lib.hid (OK.out.a r (List.mem_of_getElem? HRC.out))
          obtain ⟨_, _, hd3, hn3⟩ := (HM.out.nx HB.out).ar r (List.mem_of_getElem? HRC.out)
          have hdl : (dtB r).length ≤ 3000 := dtB_len HRK.out hd3
          have KW0 : Hid (OwK wr wz.heap.size (.slice A L.length c) L []) := ⟨OW.out, by simp, by simp⟩
          have KW1 := Lib.hid (KW0.out.box #[.string r.nm, .int .i64 r.t, .int .i64 r.c, .int .i64 r.u, .slice r.A r.da.length r.k] 43)
          have HB1 : Hid (Below wz.heap.size wz (wr.alloc (.cells #[.string r.nm, .int .i64 r.t, .int .i64 r.c, .int .i64 r.u, .slice r.A r.da.length r.k] 43))) := al HB.out _
          have hby1 : Hid (∀ ws, Below wz.heap.size wz ws → Bytes ws r.A r.da) := fun ws h => ((HM.out.nx h).ar r (List.mem_of_getElem? HRC.out)).1
          have hu0 := HRK.out.u0
          have hu1 := HRK.out.u1
          have HTT : Hid ((IntKind.u32).wrap r.u = r.u) := wrap_u32 r.u hu0 (by omega)
          have hszr := HB.out.size
          have KB : Hid (∀ w', Blk w' wr.heap.size 43 #[.string r.nm, .int .i64 r.t, .int .i64 r.c, .int .i64 r.u, .slice r.A r.da.length r.k] → (w'.cell? ⟨wr.heap.size, 0, none⟩ = some (.string r.nm) ∧ w'.cell? ⟨wr.heap.size, 1, none⟩ = some (.int .i64 r.t) ∧ w'.cell? ⟨wr.heap.size, 2, none⟩ = some (.int .i64 r.c) ∧ w'.cell? ⟨wr.heap.size, 3, none⟩ = some (.int .i64 r.u) ∧ w'.cell? ⟨wr.heap.size, 4, none⟩ = some (.slice r.A r.da.length r.k))) := fun w' h => ⟨h.cell 0, h.cell 1, h.cell 2, h.cell 3, h.cell 4⟩
          have hq9 : (hdB r.nm.data.toList r.t r.c).length ≤ 259 := qB_len HRK.out.toQOk
          by_cases t5 : r.t = 5
          · have r5 : ((r.t : Int) == 5) = true := by rw [beq_iff_eq]; exact t5
            have hcv := convStr _ r.A r.da r.da.length r.k (hby1.out _ HB1.out) rfl
            have hpd : pk (lbs (⟨r.da.toArray⟩ : ByteArray).data.toList) = dtB r := by unfold dtB; rw [if_pos t5]
            have HND : Hid (isN (⟨r.da.toArray⟩ : ByteArray).data.toList = true) := HRK.out.da t5
            clear t5
            go_wp2_with (with_reducible refine wpList_load_any rfl 43 (.tmp 202) rfl (ad.add (k * 5)) (by kernel_rfl) [.string r.nm, .int .i64 r.t, .int .i64 r.c, .int .i64 r.u, .slice r.A r.da.length r.k] _ HCELL.out Tryd.underlying43 (by kernel_rfl) (by kernel_rfl) ?_)
            refine (rpackC ⟨r.da.toArray⟩ _ (by show r.da.toArray.size ≤ _; rw [List.size_toArray]; omega)).mono ?_
            rintro e w4 (⟨hN, Ad, cd, rfl, op, b4⟩ | ⟨hN, rfl, b4⟩)
            · skip
              rw [hpd] at op ⊢
              have HD0 : Hid (0 < (dtB r).length) := by show _ < _; rw [← hpd]; unfold pk; simp
              clear hN hcv hpd e3
              obtain ⟨gd, cur, rfl, hgd, hbd, htk⟩ := own_kept op HD0.out
              have KW4 : Hid (OwK w4 wz.heap.size (.slice A L.length c) L [(gd, 5, cur), (wr.heap.size, 43, #[.string r.nm, .int .i64 r.t, .int .i64 r.c, .int .i64 r.u, .slice r.A r.da.length r.k])]) := (KW1.out.nx b4).add hbd (fun e => absurd (KW1.out.own.lt _ e).2 (by omega))
              have HB4 : Hid (Below wz.heap.size wz w4) := HB1.out.trans (b4.mono HB1.out.size)
              have HTK := Lib.hid htk
              have HDAT : Hid (∀ ws v L', OwK ws wz.heap.size v L' [(gd, 5, cur), (wr.heap.size, 43, #[.string r.nm, .int .i64 r.t, .int .i64 r.c, .int .i64 r.u, .slice r.A r.da.length r.k])] → Below wz.heap.size wz ws → Bytes ws (some ⟨gd, 0, none⟩) (dtB r)) := fun ws v L' h _ => kept_bytes (h.kp (gd, 5, cur) (by simp)) HTK.out
              have HDN : Hid ((dtB r).length = (dtB r).length) := rfl
              clear op hbd htk hgd b4
              go_wp2
              have tok1 : True := trivial
              have hs4 := HB4.out.size
              have XB4 := Lib.hid (KB.out _ (KW4.out.kp (wr.heap.size, 43, #[.string r.nm, .int .i64 r.t, .int .i64 r.c, .int .i64 r.u, .slice r.A r.da.length r.k]) (List.Mem.tail _ (List.Mem.head _))).drew)
              go_region_held3 (fun w' => w'.cell? ⟨wr.heap.size, 0, none⟩ = some (.string r.nm) ∧ w'.cell? ⟨wr.heap.size, 1, none⟩ = some (.int .i64 r.t) ∧ w'.cell? ⟨wr.heap.size, 2, none⟩ = some (.int .i64 r.c) ∧ w'.cell? ⟨wr.heap.size, 3, none⟩ = some (.int .i64 r.u) ∧ w'.cell? ⟨wr.heap.size, 4, none⟩ = some (.slice r.A r.da.length r.k))
                (first | exact XB4.out | exact XB5.out | exact XB6.out | exact XB7.out | exact XB8.out | fail)
                (first
                  | (go_at_call 34; have _t := tok1; refine (nmHeadR _ r.nm r.t r.c r.u (.slice r.A r.da.length r.k) (by omega) HRK.out.nm HRK.out.t0 HRK.out.t1 HRK.out.c0 HRK.out.c1).mono ?_; rintro e w5 ⟨Ah, kh, rfl, oh, b5⟩; have KW5 := KW4.out.nx ((Below.refl _ _).drew.trans b5); have BA5 : Below wz.heap.size wz w5 := HB4.out.trans ((Below.refl _ _).drew.trans (b5.mono hs4)); have hs5 := BA5.size; have OH := Bytes.own oh; have XB5 := Lib.hid (KB.out _ (KW5.kp (wr.heap.size, 43, #[.string r.nm, .int .i64 r.t, .int .i64 r.c, .int .i64 r.u, .slice r.A r.da.length r.k]) (List.Mem.tail _ (List.Mem.head _)))); clear tok1 _t)
                  | (refine OwK.step rfl (.tmp 216) (.tmp 218) rfl (.slice A L.length c) (L) rfl KW5 Ah ((hdB r.nm.data.toList r.t r.c)).length kh (hdB r.nm.data.toList r.t r.c) rfl rfl OH (by omega) hs5 ?_; intro A6 k6 w6 KW6 b6; obtain ⟨L6, hL6⟩ : ∃ L6, L ++ (hdB r.nm.data.toList r.t r.c) = L6 := ⟨_, rfl⟩; rw [hL6] at KW6 ⊢; have hl6 := len_app hL6 hq9; have HL6 := Lib.hid hL6; clear hL6; have BA6 : Below wz.heap.size wz w6 := BA5.trans b6; have hs6 := BA6.size; have XB6 := Lib.hid (KB.out _ (KW6.kp (wr.heap.size, 43, #[.string r.nm, .int .i64 r.t, .int .i64 r.c, .int .i64 r.u, .slice r.A r.da.length r.k]) (List.Mem.tail _ (List.Mem.head _)))))
                  | (go_at_call 35; rw [HTT.out]; refine (rfourN _ r.u hu0 (by omega)).mono ?_; rintro e w7 ⟨g7, rfl, h7, b7⟩; have KW7 := KW6.nx b7; have BA7 : Below wz.heap.size wz w7 := BA6.trans (b7.mono hs6); have hs7 := BA7.size; have XB7 := Lib.hid (KB.out _ (KW7.kp (wr.heap.size, 43, #[.string r.nm, .int .i64 r.t, .int .i64 r.c, .int .i64 r.u, .slice r.A r.da.length r.k]) (List.Mem.tail _ (List.Mem.head _)))))
                  | (refine OwK.step rfl (.tmp 219) (.tmp 223) rfl (.slice A6 L6.length k6) L6 rfl KW7 (some ⟨g7, 0, none⟩) 4 4 (beB r.u.toNat 4) (by rw [beB_len]) rfl h7 (by rw [beB_len]; omega) hs7 ?_; intro A8' k8' w8' KW8 b8; obtain ⟨L8, hL8⟩ : ∃ L8, L6 ++ beB r.u.toNat 4 = L8 := ⟨_, rfl⟩; rw [hL8] at KW8 ⊢; have hl8 := len_app hL8 (Nat.le_of_eq (beB_len _ 4)); have HL8 := Lib.hid hL8; clear hL8; have BA8 : Below wz.heap.size wz w8' := BA7.trans b8; have XB8 := Lib.hid (KB.out _ (KW8.kp (wr.heap.size, 43, #[.string r.nm, .int .i64 r.t, .int .i64 r.c, .int .i64 r.u, .slice r.A r.da.length r.k]) (List.Mem.tail _ (List.Mem.head _)))))
                  | fail)
              all_goals
                have KX := Lib.hid KW8
                have HB8 := Lib.hid BA8
                clear XB5 XB6 XB7 XB8 XB4 KW8 KW7 KW6 KW5 BA5 BA6 BA7 BA8 b5 b6 b7 b8 h7 OH oh
                have hs8 := HB8.out.size
                go_wp2_with fail
                refine (nm_rtwo _ (((dtB r).length : Nat) : Int) (by omega) (by omega)).mono ?_
                rintro e w9 ⟨rfl, o9, b9⟩
                have K9 := Lib.hid (KX.out.nx b9)
                have HB9 := Lib.hid (HB8.out.trans (b9.mono hs8))
                have hs9 := HB9.out.size
                have T9 := Lib.hid (two_bytes o9)
                clear b9 o9 KX
                go_wp2_with (at_builtin; first | (refine OwK.any rfl (.tmp 225) (.tmp 228) rfl (.slice A8' L8.length k8') (L8) rfl K9.out _ 2 2 (beB (((dtB r).length : Nat) : Int).toNat 2) (by rw [beB_len]) rfl T9.out (by rw [beB_len]; omega) hs9 ?_; intro A10 k10 w10 K10 b10; obtain ⟨La, hLa⟩ : ∃ La, L8 ++ beB (((dtB r).length : Nat) : Int).toNat 2 = La := ⟨_, rfl⟩; rw [hLa] at K10 ⊢; have hla := len_app hLa (Nat.le_of_eq (beB_len _ 2)); have HLa := Lib.hid hLa; clear hLa; have HB10 := Lib.hid (HB9.out.trans b10); have hs10 := HB10.out.size) | (refine OwK.any rfl (.tmp 229) (.tmp 230) rfl (.slice A10 La.length k10) La rfl K10 (some ⟨gd, 0, none⟩) (dtB r).length cd (dtB r) rfl rfl (HDAT.out _ _ _ K10 HB10.out) (by omega) hs10 ?_; intro A11 k11 w11 K11 b11; obtain ⟨Le, hLe⟩ : ∃ Le, La ++ dtB r = Le := ⟨_, rfl⟩; rw [hLe] at K11 ⊢; have HLf := Lib.hid hLe; clear hLe) | fail)
                have HBe : Hid (Below wz.heap.size wz w11) := HB10.out.trans b11
                have eL : Le = pq ++ (M.a.take (k + 1)).flatMap aB := by
                  rw [← HLf.out, ← HLa.out, ← HL8.out, ← HL6.out, ← HT.out, ← List.append_assoc, ← HL.out]
                  unfold aB qB
                  rw [Int.toNat_natCast]
                  simp only [List.append_assoc]
                have KE := Lib.hid K11.own
                have HLe := Lib.hid eL
                clear K10 K11 b10 b11 eL
                go_wp2
                go_roundw
                case rel => exact ⟨k + 1, A11, k11, Le, rfl, by go_num, by omega, HLe.out, KE.out, HBe.out⟩
                case measure => simp [intOf]; omega
            · exact absurd (HND.out.symm.trans hN) (by simp)
          · have r5 : ((r.t : Int) == 5) = false := by rw [beq_eq_false_iff_ne]; exact t5
            have HDN : Hid (r.da.length = (dtB r).length) := by show _ = _; unfold dtB; rw [if_neg t5]
            have HDE : Hid (dtB r = r.da) := by show _ = _; unfold dtB; rw [if_neg t5]
            have HDAT : Hid (∀ ws v L', OwK ws wz.heap.size v L' [(wr.heap.size, 43, #[.string r.nm, .int .i64 r.t, .int .i64 r.c, .int .i64 r.u, .slice r.A r.da.length r.k])] → Below wz.heap.size wz ws → Bytes ws r.A (dtB r)) := fun ws v L' _ h => by rw [HDE.out]; exact hby1.out ws h
            have KW4 := Lib.hid KW1.out
            have HB4 := Lib.hid HB1.out
            clear t5
            go_wp2_with (with_reducible refine wpList_load_any rfl 43 (.tmp 202) rfl (ad.add (k * 5)) (by kernel_rfl) [.string r.nm, .int .i64 r.t, .int .i64 r.c, .int .i64 r.u, .slice r.A r.da.length r.k] _ HCELL.out Tryd.underlying43 (by kernel_rfl) (by kernel_rfl) ?_)
            clear e3
            have tok1 : True := trivial
            have hs4 := HB4.out.size
            have XB4 := Lib.hid (KB.out _ (KW4.out.kp (wr.heap.size, 43, #[.string r.nm, .int .i64 r.t, .int .i64 r.c, .int .i64 r.u, .slice r.A r.da.length r.k]) (List.Mem.head _)).drew)
            go_region_held3 (fun w' => w'.cell? ⟨wr.heap.size, 0, none⟩ = some (.string r.nm) ∧ w'.cell? ⟨wr.heap.size, 1, none⟩ = some (.int .i64 r.t) ∧ w'.cell? ⟨wr.heap.size, 2, none⟩ = some (.int .i64 r.c) ∧ w'.cell? ⟨wr.heap.size, 3, none⟩ = some (.int .i64 r.u) ∧ w'.cell? ⟨wr.heap.size, 4, none⟩ = some (.slice r.A r.da.length r.k))
              (first | exact XB4.out | exact XB5.out | exact XB6.out | exact XB7.out | exact XB8.out | fail)
              (first
                | (go_at_call 34; have _t := tok1; refine (nmHeadR _ r.nm r.t r.c r.u (.slice r.A r.da.length r.k) (by omega) HRK.out.nm HRK.out.t0 HRK.out.t1 HRK.out.c0 HRK.out.c1).mono ?_; rintro e w5 ⟨Ah, kh, rfl, oh, b5⟩; have KW5 := KW4.out.nx ((Below.refl _ _).drew.trans b5); have BA5 : Below wz.heap.size wz w5 := HB4.out.trans ((Below.refl _ _).drew.trans (b5.mono hs4)); have hs5 := BA5.size; have OH := Bytes.own oh; have XB5 := Lib.hid (KB.out _ (KW5.kp (wr.heap.size, 43, #[.string r.nm, .int .i64 r.t, .int .i64 r.c, .int .i64 r.u, .slice r.A r.da.length r.k]) (List.Mem.head _))); clear tok1 _t)
                | (refine OwK.step rfl (.tmp 216) (.tmp 218) rfl (.slice A L.length c) (L) rfl KW5 Ah ((hdB r.nm.data.toList r.t r.c)).length kh (hdB r.nm.data.toList r.t r.c) rfl rfl OH (by omega) hs5 ?_; intro A6 k6 w6 KW6 b6; obtain ⟨L6, hL6⟩ : ∃ L6, L ++ (hdB r.nm.data.toList r.t r.c) = L6 := ⟨_, rfl⟩; rw [hL6] at KW6 ⊢; have hl6 := len_app hL6 hq9; have HL6 := Lib.hid hL6; clear hL6; have BA6 : Below wz.heap.size wz w6 := BA5.trans b6; have hs6 := BA6.size; have XB6 := Lib.hid (KB.out _ (KW6.kp (wr.heap.size, 43, #[.string r.nm, .int .i64 r.t, .int .i64 r.c, .int .i64 r.u, .slice r.A r.da.length r.k]) (List.Mem.head _))))
                | (go_at_call 35; rw [HTT.out]; refine (rfourN _ r.u hu0 (by omega)).mono ?_; rintro e w7 ⟨g7, rfl, h7, b7⟩; have KW7 := KW6.nx b7; have BA7 : Below wz.heap.size wz w7 := BA6.trans (b7.mono hs6); have hs7 := BA7.size; have XB7 := Lib.hid (KB.out _ (KW7.kp (wr.heap.size, 43, #[.string r.nm, .int .i64 r.t, .int .i64 r.c, .int .i64 r.u, .slice r.A r.da.length r.k]) (List.Mem.head _))))
                | (refine OwK.step rfl (.tmp 219) (.tmp 223) rfl (.slice A6 L6.length k6) L6 rfl KW7 (some ⟨g7, 0, none⟩) 4 4 (beB r.u.toNat 4) (by rw [beB_len]) rfl h7 (by rw [beB_len]; omega) hs7 ?_; intro A8' k8' w8' KW8 b8; obtain ⟨L8, hL8⟩ : ∃ L8, L6 ++ beB r.u.toNat 4 = L8 := ⟨_, rfl⟩; rw [hL8] at KW8 ⊢; have hl8 := len_app hL8 (Nat.le_of_eq (beB_len _ 4)); have HL8 := Lib.hid hL8; clear hL8; have BA8 : Below wz.heap.size wz w8' := BA7.trans b8; have XB8 := Lib.hid (KB.out _ (KW8.kp (wr.heap.size, 43, #[.string r.nm, .int .i64 r.t, .int .i64 r.c, .int .i64 r.u, .slice r.A r.da.length r.k]) (List.Mem.head _))))
                | fail)
            all_goals
              have KX := Lib.hid KW8
              have HB8 := Lib.hid BA8
              clear XB5 XB6 XB7 XB8 XB4 KW8 KW7 KW6 KW5 BA5 BA6 BA7 BA8 b5 b6 b7 b8 h7 OH oh
              have hs8 := HB8.out.size
              go_wp2_with fail
              refine (nm_rtwo _ ((r.da.length : Nat) : Int) (by omega) (by omega)).mono ?_
              rintro e w9 ⟨rfl, o9, b9⟩
              have K9 := Lib.hid (KX.out.nx b9)
              have HB9 := Lib.hid (HB8.out.trans (b9.mono hs8))
              have hs9 := HB9.out.size
              have T9 := Lib.hid (two_bytes o9)
              clear b9 o9 KX
              go_wp2_with (at_builtin; first | (refine OwK.any rfl (.tmp 225) (.tmp 228) rfl (.slice A8' L8.length k8') (L8) rfl K9.out _ 2 2 (beB ((r.da.length : Nat) : Int).toNat 2) (by rw [beB_len]) rfl T9.out (by rw [beB_len]; omega) hs9 ?_; intro A10 k10 w10 K10 b10; obtain ⟨La, hLa⟩ : ∃ La, L8 ++ beB ((r.da.length : Nat) : Int).toNat 2 = La := ⟨_, rfl⟩; rw [hLa] at K10 ⊢; have hla := len_app hLa (Nat.le_of_eq (beB_len _ 2)); have HLa := Lib.hid hLa; clear hLa; have HB10 := Lib.hid (HB9.out.trans b10); have hs10 := HB10.out.size) | (refine OwK.any rfl (.tmp 229) (.tmp 230) rfl (.slice A10 La.length k10) La rfl K10 r.A r.da.length r.k (dtB r) HDN.out rfl (HDAT.out _ _ _ K10 HB10.out) (by omega) hs10 ?_; intro A11 k11 w11 K11 b11; obtain ⟨Le, hLe⟩ : ∃ Le, La ++ dtB r = Le := ⟨_, rfl⟩; rw [hLe] at K11 ⊢; have HLf := Lib.hid hLe; clear hLe) | fail)
              have HBe : Hid (Below wz.heap.size wz w11) := HB10.out.trans b11
              have eL : Le = pq ++ (M.a.take (k + 1)).flatMap aB := by
                rw [← HLf.out, ← HLa.out, ← HL8.out, ← HL6.out, ← HT.out, ← List.append_assoc, ← HL.out]
                unfold aB qB
                rw [Int.toNat_natCast, HDN.out]
                simp only [List.append_assoc]
              have KE := Lib.hid K11.own
              have HLe := Lib.hid eL
              clear K10 K11 b10 b11 eL
              go_wp2
              go_roundw
              case rel => exact ⟨k + 1, A11, k11, Le, rfl, by go_num, by omega, HLe.out, KE.out, HBe.out⟩
              case measure => simp [intOf]; omega
        · skip
          have hkk : k = M.a.length := by omega
          have hE : encM M = L := by rw [HL.out, hkk, List.take_length, HL2.out, HPRE.out]; rfl
          have e3 := C3.out wr HB.out
          have HE := Lib.hid hE
          clear hE hkk
          go_wp2
          go_ret2
          exact .inl ⟨HZ.out, A, c, by rw [HE.out]; rfl, by rw [HE.out]; exact own_base OW.out HBW.out.size, HBW.out.trans (HB.out.mono HBW.out.size)⟩
end Go.Proofs.YtlojbnnmlpfnbaaDoor
