/-
  ResolveTells: the walk (merged; the tails are printed by gen_rxt.py and gen_rxu.py).
-/
import Derived.Test.YtpfkmmmlocmakaaDoorRk3
import Derived.Test.YtpfkmmmlocmakaaDoorRk2
import Derived.Test.YtpfkmmmlocmakaaDoorRvZ
set_option linter.unusedVariables false
namespace Go.Proofs.YtpfkmmmlocmakaaDoor
section
open Go.RowKit Go.Maps

noncomputable def tellsC : Code := ((Tryd.f4.body.bind (fromRg 18)).getD .skip)
theorem other_is : isN (⟨#[111, 116, 104, 101, 114]⟩ : ByteArray).data.toList = true := by decide +kernel

set_option maxRecDepth 1000000 in
set_option maxHeartbeats 6400000 in
theorem tellsDrop1 (w0 ws : World) (B rb mb g : Nat) (z : Rz) (s : ByteArray) (id : Int) (x : Rc) (Q : Option Addr) (n : Nat) (rs : List Rc) (A : Option Addr) (m : Nat) (AA : Option Addr) (ln ac : Nat)
    (hF : Fm w0 ws w0.heap.size mb id 32768 x Q n rs A m) (hxn : x.nm = s) (hxt : x.t = 1) (hxc : x.c = 1) (hxd : x.da = []) (hrs : ∀ r ∈ rs, GoodA r) (hrl : rs.length ≤ 64) (hR : IsRv ws B rb z) (hm : MaxL ws) (hqs : z.qs = [(g, ⟨s, s, 0, id, 0, 1, 50⟩)]) (hpo : z.port = 4000) (hsv : z.sv = [5, 6])
    (i0 : 0 ≤ id) (i1 : id ≤ 65535) (hs : isN s.data.toList = true) (hss : s.size ≤ 300) (hB : w0.heap.size ≤ B) (hB0 : 0 < w0.heap.size)
    (s2 s4 s5 s6 s7 s8 s10 s11 s12 s14 s15 s16 s17 s18 s19 s20 s21 s22 s23 s24 s25 s26 s27 s28 s29 s30 s31 s32 s33 s34 s35 s36 s37 s38 s39 s40 s41 s42 s43 s44 s45 s46 s47 s48 s49 s50 s51 s52 s53 s54 s55 s56 s57 s58 s59 s60 s61 s62 s63 s64 s65 s66 s67 s68 s69 s70 s71 s72 s73 s74 s75 s76 s77 s78 s79 s80 s81 s82 s83 s84 s85 s86 s87 s88 s89 s90 s91 s92 s93 s94 s95 s96 s97 s98 s99 s100 s101 s102 s103 s104 s105 s106 s107 s108 s109 s110 s111 s112 s113 s114 s115 s116 s117 s118 s119 s120 s121 s122 s123 s124 s125 s126 s127 s128 s129 s130 s131 s132 s133 s134 s135 s136 s137 s138 s139 s140 s141 s142 s143 s144 s145 s146 s147 s148 s149 s150 s151 s152 s153 s154 s155 s156 s157 s158 s159 s160 s161 s162 s163 s164 s165 s166 s167 s168 s169 s170 s171 s172 s173 s174 s175 s176 s177 s178 s179 s180 s181 s182 s183 s184 s185 s186 s187 s188 s189 s190 s191 s192 s193 s194 s195 s196 s197 s198 s199 s200 s201 s202 s203 s204 s205 s206 s207 s208 s209 s210 s211 s212 s213 s214 s215 s216 s217 s218 s219 s220 s221 s222 s223 s224 s225 s226 s227 s228 s229 s230 s231 s232 s233 s234 s235 s236 s237 s238 s239 s240 s241 s242 s243 s244 s245 s246 s247 : Value) : Code.wp Tryd.prog tellsC (bodyPost Tryd.prog Tryd.f4 (fun e w' => e = .returned (.bool true) ∧ Below w0.heap.size w0 w')) { tmps := #[.string s, .slice AA ln ac, s2, .int .i64 1, s4, s5, s6, s7, s8, .pointer (some ⟨rb, 0, none⟩), s10, s11, s12, .pointer (some ⟨mb, 0, none⟩), s14, s15, s16, s17, s18, s19, s20, s21, s22, s23, s24, s25, s26, s27, s28, s29, s30, s31, s32, s33, s34, s35, s36, s37, s38, s39, s40, s41, s42, s43, s44, s45, s46, s47, s48, s49, s50, s51, s52, s53, s54, s55, s56, s57, s58, s59, s60, s61, s62, s63, s64, s65, s66, s67, s68, s69, s70, s71, s72, s73, s74, s75, s76, s77, s78, s79, s80, s81, s82, s83, s84, s85, s86, s87, s88, s89, s90, s91, s92, s93, s94, s95, s96, s97, s98, s99, s100, s101, s102, s103, s104, s105, s106, s107, s108, s109, s110, s111, s112, s113, s114, s115, s116, s117, s118, s119, s120, s121, s122, s123, s124, s125, s126, s127, s128, s129, s130, s131, s132, s133, s134, s135, s136, s137, s138, s139, s140, s141, s142, s143, s144, s145, s146, s147, s148, s149, s150, s151, s152, s153, s154, s155, s156, s157, s158, s159, s160, s161, s162, s163, s164, s165, s166, s167, s168, s169, s170, s171, s172, s173, s174, s175, s176, s177, s178, s179, s180, s181, s182, s183, s184, s185, s186, s187, s188, s189, s190, s191, s192, s193, s194, s195, s196, s197, s198, s199, s200, s201, s202, s203, s204, s205, s206, s207, s208, s209, s210, s211, s212, s213, s214, s215, s216, s217, s218, s219, s220, s221, s222, s223, s224, s225, s226, s227, s228, s229, s230, s231, s232, s233, s234, s235, s236, s237, s238, s239, s240, s241, s242, s243, s244, s245, s246, s247], defers := [] } ws := by
  unfold tellsC
  conv => arg 2; whnf
  dsimp only
  have hrlo := hR.lo
  have hrlt := hR.b.lt
  have hws : w0.heap.size ≤ ws.heap.size := by omega
  have b1 : Below ws.heap.size ws (ws.alloc (.cells #[.int .u32 5, .int .i64 53, .int .u32 0, .int .i64 4000, .slice none 0 0] 36)) := al (rf ws) _
  have GB0 := Blk.new ws 36 #[.int .u32 5, .int .i64 53, .int .u32 0, .int .i64 4000, .slice none 0 0]
  have F0 := hF.nx b1 hws
  have R0 := hR.nx b1
  have M0 := hm.nx b1
  have hz0 : (ws.alloc (.cells #[.int .u32 5, .int .i64 53, .int .u32 0, .int .i64 4000, .slice none 0 0] 36)).heap.size = ws.heap.size + 1 := by simp
  have ngm : ws.heap.size ≠ mb := GB0.ne_ F0.b (by decide)
  obtain ⟨a, ha⟩ : ∃ a : Nat, id = a := ⟨id.toNat, by omega⟩
  obtain ⟨hx1, hx2, hx3⟩ := xor1 a (by omega)
  rw [← ha] at hx1
  obtain ⟨id2, hid2⟩ : ∃ id2 : Int, ((a ^^^ 1 : Nat) : Int) = id2 := ⟨_, rfl⟩
  rw [hid2] at hx1
  have hne2 : id ≠ id2 := by omega
  have j0 : 0 ≤ id2 := by omega
  have j1 : id2 ≤ 65535 := by omega
  clear hid2 hx2 hx3 ha
  have q0 := F0.b.cell 0
  have qf := F0.b.frozen 0
  simp only [List.getElem?_toArray, List.getElem?_cons_zero] at q0
  have FW : Fm w0 ((ws.alloc (.cells #[.int .u32 5, .int .i64 53, .int .u32 0, .int .i64 4000, .slice none 0 0] 36)).setCell ⟨mb, 0, none⟩ (.int .i64 id2)) w0.heap.size mb id2 32768 x Q n rs A m := F0.id_ id2
  have GW : Blk ((ws.alloc (.cells #[.int .u32 5, .int .i64 53, .int .u32 0, .int .i64 4000, .slice none 0 0] 36)).setCell ⟨mb, 0, none⟩ (.int .i64 id2)) ws.heap.size 36 #[.int .u32 5, .int .i64 53, .int .u32 0, .int .i64 4000, .slice none 0 0] := GB0.far (p := ⟨mb, 0, none⟩) ngm _
  have KW : KeepT (ws.alloc (.cells #[.int .u32 5, .int .i64 53, .int .u32 0, .int .i64 4000, .slice none 0 0] 36)).heap.size [43] (ws.alloc (.cells #[.int .u32 5, .int .i64 53, .int .u32 0, .int .i64 4000, .slice none 0 0] 36)) ((ws.alloc (.cells #[.int .u32 5, .int .i64 53, .int .u32 0, .int .i64 4000, .slice none 0 0] 36)).setCell ⟨mb, 0, none⟩ (.int .i64 id2)) := KeepT.of_set F0.b _ (.inr (by simp)) (Nat.le_refl _)
  have BW : Below w0.heap.size (ws.alloc (.cells #[.int .u32 5, .int .i64 53, .int .u32 0, .int .i64 4000, .slice none 0 0] 36)) ((ws.alloc (.cells #[.int .u32 5, .int .i64 53, .int .u32 0, .int .i64 4000, .slice none 0 0] 36)).setCell ⟨mb, 0, none⟩ (.int .i64 id2)) := (Below.refl _ _).setCell F0.lo _
  have BWW : Below w0.heap.size w0 ((ws.alloc (.cells #[.int .u32 5, .int .i64 53, .int .u32 0, .int .i64 4000, .slice none 0 0] 36)).setCell ⟨mb, 0, none⟩ (.int .i64 id2)) := FW.be
  have hzW : ((ws.alloc (.cells #[.int .u32 5, .int .i64 53, .int .u32 0, .int .i64 4000, .slice none 0 0] 36)).setCell ⟨mb, 0, none⟩ (.int .i64 id2)).heap.size = ws.heap.size + 1 := by simp [World.setCell]
  have RW := R0.keep KW (by decide) (by decide) (by decide) (by decide)
  have MW := M0.below BW hB0
  have y0 := FW.b.cell 0
  have y1 := FW.b.cell 1
  have y2 := FW.b.cell 2
  have y3 := FW.b.cell 3
  simp only [List.getElem?_toArray, List.getElem?_cons_zero, List.getElem?_cons_succ] at y0 y1 y2 y3
  have hzM : wrongI ⟨id2, 32768, [x], rs, Q, A, n, m⟩ = 0 := good_wrong j0 j1 (by omega) (by omega) hxt hxc (by rw [hxn]; exact hs) hrs hrl
  have hxs : x.nm.size ≤ 3000 := by rw [hxn]; omega
  have HE := Lib.hid (encD _ ⟨id2, 32768, [x], rs, Q, A, n, m⟩ (FW.is (by omega) hxs hxd) hzM MW)
  have HF := Lib.hid FW
  have HGW := Lib.hid GW
  have HRW := Lib.hid RW
  have HMW := Lib.hid MW
  have HBW := Lib.hid BWW
  have HZM := Lib.hid hzM
  have HRS := Lib.hid hrs
  have HQS := Lib.hid hqs
  have HPO := Lib.hid hpo
  have HSV := Lib.hid hsv
  have HXT := Lib.hid hxt
  have HXC := Lib.hid hxc
  have HXN := Lib.hid hxn
  have HS := Lib.hid hs
  have HSZ := Lib.hid hF.sz
  clear FW GW RW MW BWW hzM KW BW b1 GB0 F0 R0 M0 hF hR hm hqs hpo hsv hrs hxt hxc hxn hxd hz0
  go_wp2_with fail
  have hzW4 : ws.heap.size + 1 ≤ ((ws.alloc (.cells #[.int .u32 5, .int .i64 53, .int .u32 0, .int .i64 4000, .slice none 0 0] 36)).setCell ⟨mb, 0, none⟩ (.int .i64 id2)).heap.size := by omega
  generalize ((ws.alloc (.cells #[.int .u32 5, .int .i64 53, .int .u32 0, .int .i64 4000, .slice none 0 0] 36)).setCell ⟨mb, 0, none⟩ (.int .i64 id2)) = w4 at HE HGW HRW HMW HBW hzW4 ⊢
  refine HE.out.mono ?_
  rintro e w5 ⟨ga, c, rfl, by5, ty5, l1, l2, b5⟩
  have g5 := HGW.out.nx b5
  have r5 := HRW.out.nx b5
  have m5 := HMW.out.nx b5
  obtain ⟨l, hl⟩ : ∃ l, encM ⟨id2, 32768, [x], rs, Q, A, n, m⟩ = l := ⟨_, rfl⟩
  rw [hl] at by5 l1 l2 ⊢
  have g6 := g5.set_ 4 (.slice (some ⟨ga, 0, none⟩) l.length c)
  have k6 : KeepT w5.heap.size [36] w5 (w5.setCell ⟨ws.heap.size, 4, none⟩ (.slice (some ⟨ga, 0, none⟩) l.length c)) := KeepT.of_set g5 _ (.inr (by simp)) (Nat.le_refl _)
  have r6 := r5.keep k6 (by decide) (by decide) (by decide) (by decide)
  have hz5 := b5.size
  have bw6 : Below w0.heap.size w0 (w5.setCell ⟨ws.heap.size, 4, none⟩ (.slice (some ⟨ga, 0, none⟩) l.length c)) := (HBW.out.trans (b5.mono (by omega))).setCell hws _
  have m6 := (HMW.out.nx b5).below ((Below.refl ws.heap.size w5).setCell (Nat.le_refl _) (p := ⟨ws.heap.size, 4, none⟩) (.slice (some ⟨ga, 0, none⟩) l.length c)) (by omega)
  have c4 := g5.cell 4
  have f4 := g5.frozen 4
  have v0 := g6.cell 0
  have v1 := g6.cell 1
  have v2 := g6.cell 2
  have v3 := g6.cell 3
  have v4 := g6.cell 4
  simp only [List.getElem?_toArray, List.getElem?_cons_zero, List.getElem?_cons_succ] at c4 v0 v1 v2 v3 v4
  obtain ⟨by6, ty6⟩ := bytes_keepT by5 ty5 k6 (show w5.heap.size ≤ (w5.setCell ⟨ws.heap.size, 4, none⟩ (.slice (some ⟨ga, 0, none⟩) l.length c)).heap.size by simp [World.setCell]) (by decide)
  have HH := Lib.hid (hearDrop (w5.setCell ⟨ws.heap.size, 4, none⟩ (.slice (some ⟨ga, 0, none⟩) l.length c)) B rb g z ⟨s, s, 0, id, 0, 1, 50⟩ ⟨id2, 32768, [x], rs, Q, A, n, m⟩ x 5 0 3 0 l ga c r6 HQS.out m6 (by have := r6.lo; have := r6.b.lt; omega) (by omega) HZM.out (fun r hr => (HSZ.out r hr).1) (fun r hr => (HSZ.out r hr).2) rfl HXT.out HXC.out (by exact hxs) hl.symm by6 ty6 (by omega) l2 (by show bits .and .i64 32768 32768 = 32768; decide +kernel) (.inl hne2) (Int.le_refl 0) (by show (0 : Int) < z.sv.length; rw [HSV.out]; decide) (by show s.size ≤ 3000; omega) 4000 HPO.out.symm)
  have BW6 := Lib.hid bw6
  have M6 := Lib.hid m6
  have hz6 : (w5.setCell ⟨ws.heap.size, 4, none⟩ (.slice (some ⟨ga, 0, none⟩) l.length c)).heap.size = w5.heap.size := by simp [World.setCell]
  clear g5 r5 m5 g6 k6 r6 bw6 m6 b5 by5 ty5 HE by6 ty6
  go_wp2_with fail
  generalize (w5.setCell ⟨ws.heap.size, 4, none⟩ (.slice (some ⟨ga, 0, none⟩) l.length c)) = w6 at HH BW6 M6 hz6 ⊢
  refine HH.out.mono ?_
  rintro e w7 ⟨rfl, b7⟩
  have B7 := Lib.hid (BW6.out.trans (b7.mono (by omega)))
  have M7 := Lib.hid (M6.out.nx b7)
  have hz7 := b7.size
  clear b7 HH v0 v1 v2 v3 v4 c4 f4
  go_wp2_with fail
  refine (knownR _ M7.out (by omega)).mono ?_
  rintro e w8 ⟨rfl, b8⟩
  have B8 := Lib.hid (B7.out.trans (b8.mono (by omega)))
  clear b8
  go_wp2
  go_ret
  exact ⟨rfl, B8.out⟩
set_option maxRecDepth 1000000 in
set_option maxHeartbeats 6400000 in
theorem tellsDrop2 (w0 ws : World) (B rb mb g : Nat) (z : Rz) (s : ByteArray) (id : Int) (x : Rc) (Q : Option Addr) (n : Nat) (rs : List Rc) (A : Option Addr) (m : Nat) (AA : Option Addr) (ln ac : Nat)
    (hF : Fm w0 ws w0.heap.size mb id 32768 x Q n rs A m) (hxn : x.nm = s) (hxt : x.t = 1) (hxc : x.c = 1) (hxd : x.da = []) (hrs : ∀ r ∈ rs, GoodA r) (hrl : rs.length ≤ 64) (hR : IsRv ws B rb z) (hm : MaxL ws) (hqs : z.qs = [(g, ⟨s, s, 0, id, 0, 1, 50⟩)]) (hpo : z.port = 4000) (hsv : z.sv = [5, 6])
    (i0 : 0 ≤ id) (i1 : id ≤ 65535) (hs : isN s.data.toList = true) (hss : s.size ≤ 300) (hB : w0.heap.size ≤ B) (hB0 : 0 < w0.heap.size)
    (s2 s4 s5 s6 s7 s8 s10 s11 s12 s14 s15 s16 s17 s18 s19 s20 s21 s22 s23 s24 s25 s26 s27 s28 s29 s30 s31 s32 s33 s34 s35 s36 s37 s38 s39 s40 s41 s42 s43 s44 s45 s46 s47 s48 s49 s50 s51 s52 s53 s54 s55 s56 s57 s58 s59 s60 s61 s62 s63 s64 s65 s66 s67 s68 s69 s70 s71 s72 s73 s74 s75 s76 s77 s78 s79 s80 s81 s82 s83 s84 s85 s86 s87 s88 s89 s90 s91 s92 s93 s94 s95 s96 s97 s98 s99 s100 s101 s102 s103 s104 s105 s106 s107 s108 s109 s110 s111 s112 s113 s114 s115 s116 s117 s118 s119 s120 s121 s122 s123 s124 s125 s126 s127 s128 s129 s130 s131 s132 s133 s134 s135 s136 s137 s138 s139 s140 s141 s142 s143 s144 s145 s146 s147 s148 s149 s150 s151 s152 s153 s154 s155 s156 s157 s158 s159 s160 s161 s162 s163 s164 s165 s166 s167 s168 s169 s170 s171 s172 s173 s174 s175 s176 s177 s178 s179 s180 s181 s182 s183 s184 s185 s186 s187 s188 s189 s190 s191 s192 s193 s194 s195 s196 s197 s198 s199 s200 s201 s202 s203 s204 s205 s206 s207 s208 s209 s210 s211 s212 s213 s214 s215 s216 s217 s218 s219 s220 s221 s222 s223 s224 s225 s226 s227 s228 s229 s230 s231 s232 s233 s234 s235 s236 s237 s238 s239 s240 s241 s242 s243 s244 s245 s246 s247 : Value) : Code.wp Tryd.prog tellsC (bodyPost Tryd.prog Tryd.f4 (fun e w' => e = .returned (.bool true) ∧ Below w0.heap.size w0 w')) { tmps := #[.string s, .slice AA ln ac, s2, .int .i64 2, s4, s5, s6, s7, s8, .pointer (some ⟨rb, 0, none⟩), s10, s11, s12, .pointer (some ⟨mb, 0, none⟩), s14, s15, s16, s17, s18, s19, s20, s21, s22, s23, s24, s25, s26, s27, s28, s29, s30, s31, s32, s33, s34, s35, s36, s37, s38, s39, s40, s41, s42, s43, s44, s45, s46, s47, s48, s49, s50, s51, s52, s53, s54, s55, s56, s57, s58, s59, s60, s61, s62, s63, s64, s65, s66, s67, s68, s69, s70, s71, s72, s73, s74, s75, s76, s77, s78, s79, s80, s81, s82, s83, s84, s85, s86, s87, s88, s89, s90, s91, s92, s93, s94, s95, s96, s97, s98, s99, s100, s101, s102, s103, s104, s105, s106, s107, s108, s109, s110, s111, s112, s113, s114, s115, s116, s117, s118, s119, s120, s121, s122, s123, s124, s125, s126, s127, s128, s129, s130, s131, s132, s133, s134, s135, s136, s137, s138, s139, s140, s141, s142, s143, s144, s145, s146, s147, s148, s149, s150, s151, s152, s153, s154, s155, s156, s157, s158, s159, s160, s161, s162, s163, s164, s165, s166, s167, s168, s169, s170, s171, s172, s173, s174, s175, s176, s177, s178, s179, s180, s181, s182, s183, s184, s185, s186, s187, s188, s189, s190, s191, s192, s193, s194, s195, s196, s197, s198, s199, s200, s201, s202, s203, s204, s205, s206, s207, s208, s209, s210, s211, s212, s213, s214, s215, s216, s217, s218, s219, s220, s221, s222, s223, s224, s225, s226, s227, s228, s229, s230, s231, s232, s233, s234, s235, s236, s237, s238, s239, s240, s241, s242, s243, s244, s245, s246, s247], defers := [] } ws := by
  unfold tellsC
  conv => arg 2; whnf
  dsimp only
  have hrlo := hR.lo
  have hrlt := hR.b.lt
  have hws : w0.heap.size ≤ ws.heap.size := by omega
  have b1 : Below ws.heap.size ws (ws.alloc (.cells #[.int .u32 5, .int .i64 53, .int .u32 0, .int .i64 4000, .slice none 0 0] 36)) := al (rf ws) _
  have GB0 := Blk.new ws 36 #[.int .u32 5, .int .i64 53, .int .u32 0, .int .i64 4000, .slice none 0 0]
  have F0 := hF.nx b1 hws
  have R0 := hR.nx b1
  have M0 := hm.nx b1
  have hz0 : (ws.alloc (.cells #[.int .u32 5, .int .i64 53, .int .u32 0, .int .i64 4000, .slice none 0 0] 36)).heap.size = ws.heap.size + 1 := by simp
  have ngm : ws.heap.size ≠ mb := GB0.ne_ F0.b (by decide)
  have b2 : Below ws.heap.size ws (ws.alloc (.cells #[.int .u32 5, .int .i64 54, .int .u32 0, .int .i64 4000, .slice none 0 0] 36)) := al (rf ws) _
  have GW : Blk (ws.alloc (.cells #[.int .u32 5, .int .i64 54, .int .u32 0, .int .i64 4000, .slice none 0 0] 36)) ws.heap.size 36 #[.int .u32 5, .int .i64 54, .int .u32 0, .int .i64 4000, .slice none 0 0] := Blk.new _ _ _
  have FW : Fm w0 (ws.alloc (.cells #[.int .u32 5, .int .i64 54, .int .u32 0, .int .i64 4000, .slice none 0 0] 36)) w0.heap.size mb id 32768 x Q n rs A m := hF.nx b2 hws
  have BWW : Below w0.heap.size w0 (ws.alloc (.cells #[.int .u32 5, .int .i64 54, .int .u32 0, .int .i64 4000, .slice none 0 0] 36)) := FW.be
  have hzW : (ws.alloc (.cells #[.int .u32 5, .int .i64 54, .int .u32 0, .int .i64 4000, .slice none 0 0] 36)).heap.size = ws.heap.size + 1 := by simp
  have RW := hR.nx b2
  have MW := hm.nx b2
  have y0 := FW.b.cell 0
  have y1 := FW.b.cell 1
  have y2 := FW.b.cell 2
  have y3 := FW.b.cell 3
  simp only [List.getElem?_toArray, List.getElem?_cons_zero, List.getElem?_cons_succ] at y0 y1 y2 y3
  have hzM : wrongI ⟨id, 32768, [x], rs, Q, A, n, m⟩ = 0 := good_wrong i0 i1 (by omega) (by omega) hxt hxc (by rw [hxn]; exact hs) hrs hrl
  have hxs : x.nm.size ≤ 3000 := by rw [hxn]; omega
  have HE := Lib.hid (encD _ ⟨id, 32768, [x], rs, Q, A, n, m⟩ (FW.is (by omega) hxs hxd) hzM MW)
  have HF := Lib.hid FW
  have HGW := Lib.hid GW
  have HRW := Lib.hid RW
  have HMW := Lib.hid MW
  have HBW := Lib.hid BWW
  have HZM := Lib.hid hzM
  have HRS := Lib.hid hrs
  have HQS := Lib.hid hqs
  have HPO := Lib.hid hpo
  have HSV := Lib.hid hsv
  have HXT := Lib.hid hxt
  have HXC := Lib.hid hxc
  have HXN := Lib.hid hxn
  have HS := Lib.hid hs
  have HSZ := Lib.hid hF.sz
  clear FW GW RW MW BWW hzM b2 b1 GB0 F0 R0 M0 hF hR hm hqs hpo hsv hrs hxt hxc hxn hxd hz0
  go_wp2_with fail
  have hzW4 : ws.heap.size + 1 ≤ (ws.alloc (.cells #[.int .u32 5, .int .i64 54, .int .u32 0, .int .i64 4000, .slice none 0 0] 36)).heap.size := by omega
  generalize (ws.alloc (.cells #[.int .u32 5, .int .i64 54, .int .u32 0, .int .i64 4000, .slice none 0 0] 36)) = w4 at HE HGW HRW HMW HBW hzW4 ⊢
  refine HE.out.mono ?_
  rintro e w5 ⟨ga, c, rfl, by5, ty5, l1, l2, b5⟩
  have g5 := HGW.out.nx b5
  have r5 := HRW.out.nx b5
  have m5 := HMW.out.nx b5
  obtain ⟨l, hl⟩ : ∃ l, encM ⟨id, 32768, [x], rs, Q, A, n, m⟩ = l := ⟨_, rfl⟩
  rw [hl] at by5 l1 l2 ⊢
  have g6 := g5.set_ 4 (.slice (some ⟨ga, 0, none⟩) l.length c)
  have k6 : KeepT w5.heap.size [36] w5 (w5.setCell ⟨ws.heap.size, 4, none⟩ (.slice (some ⟨ga, 0, none⟩) l.length c)) := KeepT.of_set g5 _ (.inr (by simp)) (Nat.le_refl _)
  have r6 := r5.keep k6 (by decide) (by decide) (by decide) (by decide)
  have hz5 := b5.size
  have bw6 : Below w0.heap.size w0 (w5.setCell ⟨ws.heap.size, 4, none⟩ (.slice (some ⟨ga, 0, none⟩) l.length c)) := (HBW.out.trans (b5.mono (by omega))).setCell hws _
  have m6 := (HMW.out.nx b5).below ((Below.refl ws.heap.size w5).setCell (Nat.le_refl _) (p := ⟨ws.heap.size, 4, none⟩) (.slice (some ⟨ga, 0, none⟩) l.length c)) (by omega)
  have c4 := g5.cell 4
  have f4 := g5.frozen 4
  have v0 := g6.cell 0
  have v1 := g6.cell 1
  have v2 := g6.cell 2
  have v3 := g6.cell 3
  have v4 := g6.cell 4
  simp only [List.getElem?_toArray, List.getElem?_cons_zero, List.getElem?_cons_succ] at c4 v0 v1 v2 v3 v4
  have HH := Lib.hid (hearPort (w5.setCell ⟨ws.heap.size, 4, none⟩ (.slice (some ⟨ga, 0, none⟩) l.length c)) B rb z 5 54 0 4000 3 0 (some ⟨ga, 0, none⟩) l.length c r6 (.inr ⟨by rw [HPO.out]; rfl, rfl⟩))
  have BW6 := Lib.hid bw6
  have M6 := Lib.hid m6
  have hz6 : (w5.setCell ⟨ws.heap.size, 4, none⟩ (.slice (some ⟨ga, 0, none⟩) l.length c)).heap.size = w5.heap.size := by simp [World.setCell]
  clear g5 r5 m5 g6 k6 r6 bw6 m6 b5 by5 ty5 HE
  go_wp2_with fail
  generalize (w5.setCell ⟨ws.heap.size, 4, none⟩ (.slice (some ⟨ga, 0, none⟩) l.length c)) = w6 at HH BW6 M6 hz6 ⊢
  refine HH.out.mono ?_
  rintro e w7 ⟨rfl, b7⟩
  have B7 := Lib.hid (BW6.out.trans (b7.mono (by omega)))
  have M7 := Lib.hid (M6.out.nx b7)
  have hz7 := b7.size
  clear b7 HH v0 v1 v2 v3 v4 c4 f4
  go_wp2_with fail
  refine (knownR _ M7.out (by omega)).mono ?_
  rintro e w8 ⟨rfl, b8⟩
  have B8 := Lib.hid (B7.out.trans (b8.mono (by omega)))
  clear b8
  go_wp2
  go_ret
  exact ⟨rfl, B8.out⟩
set_option maxRecDepth 1000000 in
set_option maxHeartbeats 6400000 in
theorem tellsDrop3 (w0 ws : World) (B rb mb g : Nat) (z : Rz) (s : ByteArray) (id : Int) (x : Rc) (Q : Option Addr) (n : Nat) (rs : List Rc) (A : Option Addr) (m : Nat) (AA : Option Addr) (ln ac : Nat)
    (hF : Fm w0 ws w0.heap.size mb id 32768 x Q n rs A m) (hxn : x.nm = s) (hxt : x.t = 1) (hxc : x.c = 1) (hxd : x.da = []) (hrs : ∀ r ∈ rs, GoodA r) (hrl : rs.length ≤ 64) (hR : IsRv ws B rb z) (hm : MaxL ws) (hqs : z.qs = [(g, ⟨s, s, 0, id, 0, 1, 50⟩)]) (hpo : z.port = 4000) (hsv : z.sv = [5, 6])
    (i0 : 0 ≤ id) (i1 : id ≤ 65535) (hs : isN s.data.toList = true) (hss : s.size ≤ 300) (hB : w0.heap.size ≤ B) (hB0 : 0 < w0.heap.size)
    (s2 s4 s5 s6 s7 s8 s10 s11 s12 s14 s15 s16 s17 s18 s19 s20 s21 s22 s23 s24 s25 s26 s27 s28 s29 s30 s31 s32 s33 s34 s35 s36 s37 s38 s39 s40 s41 s42 s43 s44 s45 s46 s47 s48 s49 s50 s51 s52 s53 s54 s55 s56 s57 s58 s59 s60 s61 s62 s63 s64 s65 s66 s67 s68 s69 s70 s71 s72 s73 s74 s75 s76 s77 s78 s79 s80 s81 s82 s83 s84 s85 s86 s87 s88 s89 s90 s91 s92 s93 s94 s95 s96 s97 s98 s99 s100 s101 s102 s103 s104 s105 s106 s107 s108 s109 s110 s111 s112 s113 s114 s115 s116 s117 s118 s119 s120 s121 s122 s123 s124 s125 s126 s127 s128 s129 s130 s131 s132 s133 s134 s135 s136 s137 s138 s139 s140 s141 s142 s143 s144 s145 s146 s147 s148 s149 s150 s151 s152 s153 s154 s155 s156 s157 s158 s159 s160 s161 s162 s163 s164 s165 s166 s167 s168 s169 s170 s171 s172 s173 s174 s175 s176 s177 s178 s179 s180 s181 s182 s183 s184 s185 s186 s187 s188 s189 s190 s191 s192 s193 s194 s195 s196 s197 s198 s199 s200 s201 s202 s203 s204 s205 s206 s207 s208 s209 s210 s211 s212 s213 s214 s215 s216 s217 s218 s219 s220 s221 s222 s223 s224 s225 s226 s227 s228 s229 s230 s231 s232 s233 s234 s235 s236 s237 s238 s239 s240 s241 s242 s243 s244 s245 s246 s247 : Value) : Code.wp Tryd.prog tellsC (bodyPost Tryd.prog Tryd.f4 (fun e w' => e = .returned (.bool true) ∧ Below w0.heap.size w0 w')) { tmps := #[.string s, .slice AA ln ac, s2, .int .i64 3, s4, s5, s6, s7, s8, .pointer (some ⟨rb, 0, none⟩), s10, s11, s12, .pointer (some ⟨mb, 0, none⟩), s14, s15, s16, s17, s18, s19, s20, s21, s22, s23, s24, s25, s26, s27, s28, s29, s30, s31, s32, s33, s34, s35, s36, s37, s38, s39, s40, s41, s42, s43, s44, s45, s46, s47, s48, s49, s50, s51, s52, s53, s54, s55, s56, s57, s58, s59, s60, s61, s62, s63, s64, s65, s66, s67, s68, s69, s70, s71, s72, s73, s74, s75, s76, s77, s78, s79, s80, s81, s82, s83, s84, s85, s86, s87, s88, s89, s90, s91, s92, s93, s94, s95, s96, s97, s98, s99, s100, s101, s102, s103, s104, s105, s106, s107, s108, s109, s110, s111, s112, s113, s114, s115, s116, s117, s118, s119, s120, s121, s122, s123, s124, s125, s126, s127, s128, s129, s130, s131, s132, s133, s134, s135, s136, s137, s138, s139, s140, s141, s142, s143, s144, s145, s146, s147, s148, s149, s150, s151, s152, s153, s154, s155, s156, s157, s158, s159, s160, s161, s162, s163, s164, s165, s166, s167, s168, s169, s170, s171, s172, s173, s174, s175, s176, s177, s178, s179, s180, s181, s182, s183, s184, s185, s186, s187, s188, s189, s190, s191, s192, s193, s194, s195, s196, s197, s198, s199, s200, s201, s202, s203, s204, s205, s206, s207, s208, s209, s210, s211, s212, s213, s214, s215, s216, s217, s218, s219, s220, s221, s222, s223, s224, s225, s226, s227, s228, s229, s230, s231, s232, s233, s234, s235, s236, s237, s238, s239, s240, s241, s242, s243, s244, s245, s246, s247], defers := [] } ws := by
  unfold tellsC
  conv => arg 2; whnf
  dsimp only
  have hrlo := hR.lo
  have hrlt := hR.b.lt
  have hws : w0.heap.size ≤ ws.heap.size := by omega
  have b1 : Below ws.heap.size ws (ws.alloc (.cells #[.int .u32 5, .int .i64 53, .int .u32 0, .int .i64 4000, .slice none 0 0] 36)) := al (rf ws) _
  have GB0 := Blk.new ws 36 #[.int .u32 5, .int .i64 53, .int .u32 0, .int .i64 4000, .slice none 0 0]
  have F0 := hF.nx b1 hws
  have R0 := hR.nx b1
  have M0 := hm.nx b1
  have hz0 : (ws.alloc (.cells #[.int .u32 5, .int .i64 53, .int .u32 0, .int .i64 4000, .slice none 0 0] 36)).heap.size = ws.heap.size + 1 := by simp
  have ngm : ws.heap.size ≠ mb := GB0.ne_ F0.b (by decide)
  have b2 : Below ws.heap.size ws (ws.alloc (.cells #[.int .u32 6, .int .i64 53, .int .u32 0, .int .i64 4000, .slice none 0 0] 36)) := al (rf ws) _
  have GW : Blk (ws.alloc (.cells #[.int .u32 6, .int .i64 53, .int .u32 0, .int .i64 4000, .slice none 0 0] 36)) ws.heap.size 36 #[.int .u32 6, .int .i64 53, .int .u32 0, .int .i64 4000, .slice none 0 0] := Blk.new _ _ _
  have FW : Fm w0 (ws.alloc (.cells #[.int .u32 6, .int .i64 53, .int .u32 0, .int .i64 4000, .slice none 0 0] 36)) w0.heap.size mb id 32768 x Q n rs A m := hF.nx b2 hws
  have BWW : Below w0.heap.size w0 (ws.alloc (.cells #[.int .u32 6, .int .i64 53, .int .u32 0, .int .i64 4000, .slice none 0 0] 36)) := FW.be
  have hzW : (ws.alloc (.cells #[.int .u32 6, .int .i64 53, .int .u32 0, .int .i64 4000, .slice none 0 0] 36)).heap.size = ws.heap.size + 1 := by simp
  have RW := hR.nx b2
  have MW := hm.nx b2
  have y0 := FW.b.cell 0
  have y1 := FW.b.cell 1
  have y2 := FW.b.cell 2
  have y3 := FW.b.cell 3
  simp only [List.getElem?_toArray, List.getElem?_cons_zero, List.getElem?_cons_succ] at y0 y1 y2 y3
  have hzM : wrongI ⟨id, 32768, [x], rs, Q, A, n, m⟩ = 0 := good_wrong i0 i1 (by omega) (by omega) hxt hxc (by rw [hxn]; exact hs) hrs hrl
  have hxs : x.nm.size ≤ 3000 := by rw [hxn]; omega
  have HE := Lib.hid (encD _ ⟨id, 32768, [x], rs, Q, A, n, m⟩ (FW.is (by omega) hxs hxd) hzM MW)
  have HF := Lib.hid FW
  have HGW := Lib.hid GW
  have HRW := Lib.hid RW
  have HMW := Lib.hid MW
  have HBW := Lib.hid BWW
  have HZM := Lib.hid hzM
  have HRS := Lib.hid hrs
  have HQS := Lib.hid hqs
  have HPO := Lib.hid hpo
  have HSV := Lib.hid hsv
  have HXT := Lib.hid hxt
  have HXC := Lib.hid hxc
  have HXN := Lib.hid hxn
  have HS := Lib.hid hs
  have HSZ := Lib.hid hF.sz
  clear FW GW RW MW BWW hzM b2 b1 GB0 F0 R0 M0 hF hR hm hqs hpo hsv hrs hxt hxc hxn hxd hz0
  go_wp2_with fail
  have hzW4 : ws.heap.size + 1 ≤ (ws.alloc (.cells #[.int .u32 6, .int .i64 53, .int .u32 0, .int .i64 4000, .slice none 0 0] 36)).heap.size := by omega
  generalize (ws.alloc (.cells #[.int .u32 6, .int .i64 53, .int .u32 0, .int .i64 4000, .slice none 0 0] 36)) = w4 at HE HGW HRW HMW HBW hzW4 ⊢
  refine HE.out.mono ?_
  rintro e w5 ⟨ga, c, rfl, by5, ty5, l1, l2, b5⟩
  have g5 := HGW.out.nx b5
  have r5 := HRW.out.nx b5
  have m5 := HMW.out.nx b5
  obtain ⟨l, hl⟩ : ∃ l, encM ⟨id, 32768, [x], rs, Q, A, n, m⟩ = l := ⟨_, rfl⟩
  rw [hl] at by5 l1 l2 ⊢
  have g6 := g5.set_ 4 (.slice (some ⟨ga, 0, none⟩) l.length c)
  have k6 : KeepT w5.heap.size [36] w5 (w5.setCell ⟨ws.heap.size, 4, none⟩ (.slice (some ⟨ga, 0, none⟩) l.length c)) := KeepT.of_set g5 _ (.inr (by simp)) (Nat.le_refl _)
  have r6 := r5.keep k6 (by decide) (by decide) (by decide) (by decide)
  have hz5 := b5.size
  have bw6 : Below w0.heap.size w0 (w5.setCell ⟨ws.heap.size, 4, none⟩ (.slice (some ⟨ga, 0, none⟩) l.length c)) := (HBW.out.trans (b5.mono (by omega))).setCell hws _
  have m6 := (HMW.out.nx b5).below ((Below.refl ws.heap.size w5).setCell (Nat.le_refl _) (p := ⟨ws.heap.size, 4, none⟩) (.slice (some ⟨ga, 0, none⟩) l.length c)) (by omega)
  have c4 := g5.cell 4
  have f4 := g5.frozen 4
  have v0 := g6.cell 0
  have v1 := g6.cell 1
  have v2 := g6.cell 2
  have v3 := g6.cell 3
  have v4 := g6.cell 4
  simp only [List.getElem?_toArray, List.getElem?_cons_zero, List.getElem?_cons_succ] at c4 v0 v1 v2 v3 v4
  obtain ⟨by6, ty6⟩ := bytes_keepT by5 ty5 k6 (show w5.heap.size ≤ (w5.setCell ⟨ws.heap.size, 4, none⟩ (.slice (some ⟨ga, 0, none⟩) l.length c)).heap.size by simp [World.setCell]) (by decide)
  have HH := Lib.hid (hearDrop (w5.setCell ⟨ws.heap.size, 4, none⟩ (.slice (some ⟨ga, 0, none⟩) l.length c)) B rb g z ⟨s, s, 0, id, 0, 1, 50⟩ ⟨id, 32768, [x], rs, Q, A, n, m⟩ x 6 0 3 0 l ga c r6 HQS.out m6 (by have := r6.lo; have := r6.b.lt; omega) (by omega) HZM.out (fun r hr => (HSZ.out r hr).1) (fun r hr => (HSZ.out r hr).2) rfl HXT.out HXC.out (by exact hxs) hl.symm by6 ty6 (by omega) l2 (by show bits .and .i64 32768 32768 = 32768; decide +kernel) (.inr (.inl ⟨rfl, by show svAt z 0 ≠ 6; unfold svAt; rw [HSV.out]; decide⟩)) (Int.le_refl 0) (by show (0 : Int) < z.sv.length; rw [HSV.out]; decide) (by show s.size ≤ 3000; omega) 4000 HPO.out.symm)
  have BW6 := Lib.hid bw6
  have M6 := Lib.hid m6
  have hz6 : (w5.setCell ⟨ws.heap.size, 4, none⟩ (.slice (some ⟨ga, 0, none⟩) l.length c)).heap.size = w5.heap.size := by simp [World.setCell]
  clear g5 r5 m5 g6 k6 r6 bw6 m6 b5 by5 ty5 HE by6 ty6
  go_wp2_with fail
  generalize (w5.setCell ⟨ws.heap.size, 4, none⟩ (.slice (some ⟨ga, 0, none⟩) l.length c)) = w6 at HH BW6 M6 hz6 ⊢
  refine HH.out.mono ?_
  rintro e w7 ⟨rfl, b7⟩
  have B7 := Lib.hid (BW6.out.trans (b7.mono (by omega)))
  have M7 := Lib.hid (M6.out.nx b7)
  have hz7 := b7.size
  clear b7 HH v0 v1 v2 v3 v4 c4 f4
  go_wp2_with fail
  refine (knownR _ M7.out (by omega)).mono ?_
  rintro e w8 ⟨rfl, b8⟩
  have B8 := Lib.hid (B7.out.trans (b8.mono (by omega)))
  clear b8
  go_wp2
  go_ret
  exact ⟨rfl, B8.out⟩
set_option maxRecDepth 1000000 in
set_option maxHeartbeats 6400000 in
theorem tellsDrop4 (w0 ws : World) (B rb mb g : Nat) (z : Rz) (s : ByteArray) (id : Int) (x : Rc) (Q : Option Addr) (n : Nat) (rs : List Rc) (A : Option Addr) (m : Nat) (AA : Option Addr) (ln ac : Nat)
    (hF : Fm w0 ws w0.heap.size mb id 32768 x Q n rs A m) (hxn : x.nm = s) (hxt : x.t = 1) (hxc : x.c = 1) (hxd : x.da = []) (hrs : ∀ r ∈ rs, GoodA r) (hrl : rs.length ≤ 64) (hR : IsRv ws B rb z) (hm : MaxL ws) (hqs : z.qs = [(g, ⟨s, s, 0, id, 0, 1, 50⟩)]) (hpo : z.port = 4000) (hsv : z.sv = [5, 6])
    (i0 : 0 ≤ id) (i1 : id ≤ 65535) (hs : isN s.data.toList = true) (hss : s.size ≤ 300) (hB : w0.heap.size ≤ B) (hB0 : 0 < w0.heap.size)
    (s2 s4 s5 s6 s7 s8 s10 s11 s12 s14 s15 s16 s17 s18 s19 s20 s21 s22 s23 s24 s25 s26 s27 s28 s29 s30 s31 s32 s33 s34 s35 s36 s37 s38 s39 s40 s41 s42 s43 s44 s45 s46 s47 s48 s49 s50 s51 s52 s53 s54 s55 s56 s57 s58 s59 s60 s61 s62 s63 s64 s65 s66 s67 s68 s69 s70 s71 s72 s73 s74 s75 s76 s77 s78 s79 s80 s81 s82 s83 s84 s85 s86 s87 s88 s89 s90 s91 s92 s93 s94 s95 s96 s97 s98 s99 s100 s101 s102 s103 s104 s105 s106 s107 s108 s109 s110 s111 s112 s113 s114 s115 s116 s117 s118 s119 s120 s121 s122 s123 s124 s125 s126 s127 s128 s129 s130 s131 s132 s133 s134 s135 s136 s137 s138 s139 s140 s141 s142 s143 s144 s145 s146 s147 s148 s149 s150 s151 s152 s153 s154 s155 s156 s157 s158 s159 s160 s161 s162 s163 s164 s165 s166 s167 s168 s169 s170 s171 s172 s173 s174 s175 s176 s177 s178 s179 s180 s181 s182 s183 s184 s185 s186 s187 s188 s189 s190 s191 s192 s193 s194 s195 s196 s197 s198 s199 s200 s201 s202 s203 s204 s205 s206 s207 s208 s209 s210 s211 s212 s213 s214 s215 s216 s217 s218 s219 s220 s221 s222 s223 s224 s225 s226 s227 s228 s229 s230 s231 s232 s233 s234 s235 s236 s237 s238 s239 s240 s241 s242 s243 s244 s245 s246 s247 : Value) : Code.wp Tryd.prog tellsC (bodyPost Tryd.prog Tryd.f4 (fun e w' => e = .returned (.bool true) ∧ Below w0.heap.size w0 w')) { tmps := #[.string s, .slice AA ln ac, s2, .int .i64 4, s4, s5, s6, s7, s8, .pointer (some ⟨rb, 0, none⟩), s10, s11, s12, .pointer (some ⟨mb, 0, none⟩), s14, s15, s16, s17, s18, s19, s20, s21, s22, s23, s24, s25, s26, s27, s28, s29, s30, s31, s32, s33, s34, s35, s36, s37, s38, s39, s40, s41, s42, s43, s44, s45, s46, s47, s48, s49, s50, s51, s52, s53, s54, s55, s56, s57, s58, s59, s60, s61, s62, s63, s64, s65, s66, s67, s68, s69, s70, s71, s72, s73, s74, s75, s76, s77, s78, s79, s80, s81, s82, s83, s84, s85, s86, s87, s88, s89, s90, s91, s92, s93, s94, s95, s96, s97, s98, s99, s100, s101, s102, s103, s104, s105, s106, s107, s108, s109, s110, s111, s112, s113, s114, s115, s116, s117, s118, s119, s120, s121, s122, s123, s124, s125, s126, s127, s128, s129, s130, s131, s132, s133, s134, s135, s136, s137, s138, s139, s140, s141, s142, s143, s144, s145, s146, s147, s148, s149, s150, s151, s152, s153, s154, s155, s156, s157, s158, s159, s160, s161, s162, s163, s164, s165, s166, s167, s168, s169, s170, s171, s172, s173, s174, s175, s176, s177, s178, s179, s180, s181, s182, s183, s184, s185, s186, s187, s188, s189, s190, s191, s192, s193, s194, s195, s196, s197, s198, s199, s200, s201, s202, s203, s204, s205, s206, s207, s208, s209, s210, s211, s212, s213, s214, s215, s216, s217, s218, s219, s220, s221, s222, s223, s224, s225, s226, s227, s228, s229, s230, s231, s232, s233, s234, s235, s236, s237, s238, s239, s240, s241, s242, s243, s244, s245, s246, s247], defers := [] } ws := by
  unfold tellsC
  conv => arg 2; whnf
  dsimp only
  have hrlo := hR.lo
  have hrlt := hR.b.lt
  have hws : w0.heap.size ≤ ws.heap.size := by omega
  have b1 : Below ws.heap.size ws (ws.alloc (.cells #[.int .u32 5, .int .i64 53, .int .u32 0, .int .i64 4000, .slice none 0 0] 36)) := al (rf ws) _
  have GB0 := Blk.new ws 36 #[.int .u32 5, .int .i64 53, .int .u32 0, .int .i64 4000, .slice none 0 0]
  have F0 := hF.nx b1 hws
  have R0 := hR.nx b1
  have M0 := hm.nx b1
  have hz0 : (ws.alloc (.cells #[.int .u32 5, .int .i64 53, .int .u32 0, .int .i64 4000, .slice none 0 0] 36)).heap.size = ws.heap.size + 1 := by simp
  have ngm : ws.heap.size ≠ mb := GB0.ne_ F0.b (by decide)
  obtain ⟨qb, hQ, hqb, hqc, hqf, hFo⟩ := F0.oth
  subst hQ
  have q0 := hqc 0 _ rfl
  have m2 := F0.b.cell 2
  simp only [List.getElem?_toArray, List.getElem?_cons_zero, List.getElem?_cons_succ] at m2
  have ngq : ws.heap.size ≠ qb := fun e => by
    have h := GB0.cell 0
    have h1 := hqc 0 _ rfl
    rw [← e, h] at h1
    simp only [List.getElem?_toArray, List.getElem?_cons_zero, Option.some.injEq] at h1
    cases h1
  have FW : Fm w0 ((ws.alloc (.cells #[.int .u32 5, .int .i64 53, .int .u32 0, .int .i64 4000, .slice none 0 0] 36)).setCell ⟨qb, 0, none⟩ (.string ⟨#[111, 116, 104, 101, 114]⟩)) w0.heap.size mb id 32768 { x with nm := ⟨#[111, 116, 104, 101, 114]⟩ } (some ⟨qb, 0, none⟩) n rs A m := hFo _
  have GW : Blk ((ws.alloc (.cells #[.int .u32 5, .int .i64 53, .int .u32 0, .int .i64 4000, .slice none 0 0] 36)).setCell ⟨qb, 0, none⟩ (.string ⟨#[111, 116, 104, 101, 114]⟩)) ws.heap.size 36 #[.int .u32 5, .int .i64 53, .int .u32 0, .int .i64 4000, .slice none 0 0] := GB0.far (p := ⟨qb, 0, none⟩) ngq _
  have BW : Below w0.heap.size (ws.alloc (.cells #[.int .u32 5, .int .i64 53, .int .u32 0, .int .i64 4000, .slice none 0 0] 36)) ((ws.alloc (.cells #[.int .u32 5, .int .i64 53, .int .u32 0, .int .i64 4000, .slice none 0 0] 36)).setCell ⟨qb, 0, none⟩ (.string ⟨#[111, 116, 104, 101, 114]⟩)) := (Below.refl _ _).setCell hqb _
  have KW : KeepT (ws.alloc (.cells #[.int .u32 5, .int .i64 53, .int .u32 0, .int .i64 4000, .slice none 0 0] 36)).heap.size [48] (ws.alloc (.cells #[.int .u32 5, .int .i64 53, .int .u32 0, .int .i64 4000, .slice none 0 0] 36)) ((ws.alloc (.cells #[.int .u32 5, .int .i64 53, .int .u32 0, .int .i64 4000, .slice none 0 0] 36)).setCell ⟨qb, 0, none⟩ (.string ⟨#[111, 116, 104, 101, 114]⟩)) := by
    intro i o hi ho hno
    by_cases e : i = qb
    · subst e
      rcases F0.q.2 with ⟨_, h0⟩ | ⟨qb2, cap, cur, e2, _, hh, _⟩
      · omega
      · injection e2 with e3
        injection e3 with e3
        injection e3 with e3
        subst e3
        rw [hh] at ho
        injection ho with ho
        subst ho
        exact absurd (List.mem_singleton.2 rfl) hno
    · exact (Below.heap_setCell _ ⟨qb, 0, none⟩ _ i e).trans ho
  have BWW : Below w0.heap.size w0 ((ws.alloc (.cells #[.int .u32 5, .int .i64 53, .int .u32 0, .int .i64 4000, .slice none 0 0] 36)).setCell ⟨qb, 0, none⟩ (.string ⟨#[111, 116, 104, 101, 114]⟩)) := FW.be
  have hzW : ((ws.alloc (.cells #[.int .u32 5, .int .i64 53, .int .u32 0, .int .i64 4000, .slice none 0 0] 36)).setCell ⟨qb, 0, none⟩ (.string ⟨#[111, 116, 104, 101, 114]⟩)).heap.size = ws.heap.size + 1 := by simp [World.setCell]
  have RW := R0.keep KW (by decide) (by decide) (by decide) (by decide)
  have MW := M0.below BW hB0
  have y0 := FW.b.cell 0
  have y1 := FW.b.cell 1
  have y2 := FW.b.cell 2
  have y3 := FW.b.cell 3
  simp only [List.getElem?_toArray, List.getElem?_cons_zero, List.getElem?_cons_succ] at y0 y1 y2 y3
  have hzM : wrongI ⟨id, 32768, [{ x with nm := ⟨#[111, 116, 104, 101, 114]⟩ }], rs, (some ⟨qb, 0, none⟩), A, n, m⟩ = 0 := good_wrong i0 i1 (by omega) (by omega) hxt hxc (other_is) hrs hrl
  have hxs : (⟨#[111, 116, 104, 101, 114]⟩ : ByteArray).size ≤ 3000 := by decide
  have HE := Lib.hid (encD _ ⟨id, 32768, [{ x with nm := ⟨#[111, 116, 104, 101, 114]⟩ }], rs, (some ⟨qb, 0, none⟩), A, n, m⟩ (FW.is (by omega) hxs hxd) hzM MW)
  have HF := Lib.hid FW
  have HGW := Lib.hid GW
  have HRW := Lib.hid RW
  have HMW := Lib.hid MW
  have HBW := Lib.hid BWW
  have HZM := Lib.hid hzM
  have HRS := Lib.hid hrs
  have HQS := Lib.hid hqs
  have HPO := Lib.hid hpo
  have HSV := Lib.hid hsv
  have HXT := Lib.hid hxt
  have HXC := Lib.hid hxc
  have HXN := Lib.hid hxn
  have HS := Lib.hid hs
  have HXD := Lib.hid hxd
  have HSZ := Lib.hid hF.sz
  clear FW GW RW MW BWW hzM KW BW b1 GB0 F0 R0 M0 hF hR hm hqs hpo hsv hrs hxt hxc hxn hxd hz0
  obtain ⟨bs, hbs⟩ : ∃ bs, (low s == low ⟨#[111, 116, 104, 101, 114]⟩) = bs := ⟨_, rfl⟩
  have HSM := Lib.hid (sameC s ⟨#[111, 116, 104, 101, 114]⟩ ((ws.alloc (.cells #[.int .u32 5, .int .i64 53, .int .u32 0, .int .i64 4000, .slice none 0 0] 36)).setCell ⟨qb, 0, none⟩ (.string ⟨#[111, 116, 104, 101, 114]⟩)) (by omega) (by decide))
  rw [hbs] at HSM
  have HBS := Lib.hid hbs
  clear hFo hqc hbs
  go_wp2_with fail
  refine HSM.out.mono ?_
  rintro e w4 ⟨rfl, n4, hw4⟩
  have b4 := below_drew hw4
  clear hw4 HSM
  cases bs with
  | true =>
    go_wp2_with fail
    refine (knownR _ (HMW.out.nx b4) (by have := b4.size; omega)).mono ?_
    rintro e w5 ⟨rfl, b5⟩
    have B5 := Lib.hid ((HBW.out.trans (b4.mono (by omega))).trans (b5.mono (by have := b4.size; omega)))
    clear b4 b5
    go_wp2
    go_ret
    exact ⟨rfl, B5.out⟩
  | false =>
  have F4 := Lib.hid (HF.out.nx b4 (by omega))
  have G4 := Lib.hid (HGW.out.nx b4)
  have R4 := Lib.hid (HRW.out.nx b4)
  have M4 := Lib.hid (HMW.out.nx b4)
  have BW4 := Lib.hid (HBW.out.trans (b4.mono (by omega)))
  have hz4 := b4.size
  have y0 := F4.out.b.cell 0
  have y1 := F4.out.b.cell 1
  have y2 := F4.out.b.cell 2
  have y3 := F4.out.b.cell 3
  simp only [List.getElem?_toArray, List.getElem?_cons_zero, List.getElem?_cons_succ] at y0 y1 y2 y3
  have HE := Lib.hid (encD w4 ⟨id, 32768, [{ x with nm := ⟨#[111, 116, 104, 101, 114]⟩ }], rs, (some ⟨qb, 0, none⟩), A, n, m⟩ (F4.out.is (by omega) hxs HXD.out) HZM.out M4.out)
  have hzW4 : ws.heap.size + 1 ≤ w4.heap.size := by omega
  clear b4 HF HGW HRW HMW HBW
  go_wp2_with fail
  refine HE.out.mono ?_
  rintro e w5 ⟨ga, c, rfl, by5, ty5, l1, l2, b5⟩
  have g5 := G4.out.nx b5
  have r5 := R4.out.nx b5
  have m5 := M4.out.nx b5
  obtain ⟨l, hl⟩ : ∃ l, encM ⟨id, 32768, [{ x with nm := ⟨#[111, 116, 104, 101, 114]⟩ }], rs, (some ⟨qb, 0, none⟩), A, n, m⟩ = l := ⟨_, rfl⟩
  rw [hl] at by5 l1 l2 ⊢
  have g6 := g5.set_ 4 (.slice (some ⟨ga, 0, none⟩) l.length c)
  have k6 : KeepT w5.heap.size [36] w5 (w5.setCell ⟨ws.heap.size, 4, none⟩ (.slice (some ⟨ga, 0, none⟩) l.length c)) := KeepT.of_set g5 _ (.inr (by simp)) (Nat.le_refl _)
  have r6 := r5.keep k6 (by decide) (by decide) (by decide) (by decide)
  have hz5 := b5.size
  have bw6 : Below w0.heap.size w0 (w5.setCell ⟨ws.heap.size, 4, none⟩ (.slice (some ⟨ga, 0, none⟩) l.length c)) := (BW4.out.trans (b5.mono (by omega))).setCell hws _
  have m6 := (M4.out.nx b5).below ((Below.refl ws.heap.size w5).setCell (Nat.le_refl _) (p := ⟨ws.heap.size, 4, none⟩) (.slice (some ⟨ga, 0, none⟩) l.length c)) (by omega)
  have c4 := g5.cell 4
  have f4 := g5.frozen 4
  have v0 := g6.cell 0
  have v1 := g6.cell 1
  have v2 := g6.cell 2
  have v3 := g6.cell 3
  have v4 := g6.cell 4
  simp only [List.getElem?_toArray, List.getElem?_cons_zero, List.getElem?_cons_succ] at c4 v0 v1 v2 v3 v4
  obtain ⟨by6, ty6⟩ := bytes_keepT by5 ty5 k6 (show w5.heap.size ≤ (w5.setCell ⟨ws.heap.size, 4, none⟩ (.slice (some ⟨ga, 0, none⟩) l.length c)).heap.size by simp [World.setCell]) (by decide)
  have HH := Lib.hid (hearDrop (w5.setCell ⟨ws.heap.size, 4, none⟩ (.slice (some ⟨ga, 0, none⟩) l.length c)) B rb g z ⟨s, s, 0, id, 0, 1, 50⟩ ⟨id, 32768, [{ x with nm := ⟨#[111, 116, 104, 101, 114]⟩ }], rs, (some ⟨qb, 0, none⟩), A, n, m⟩ { x with nm := ⟨#[111, 116, 104, 101, 114]⟩ } 5 0 3 0 l ga c r6 HQS.out m6 (by have := r6.lo; have := r6.b.lt; omega) (by omega) HZM.out (fun r hr => (HSZ.out r hr).1) (fun r hr => (HSZ.out r hr).2) rfl HXT.out HXC.out (by exact hxs) hl.symm by6 ty6 (by omega) l2 (by show bits .and .i64 32768 32768 = 32768; decide +kernel) (.inr (.inr ⟨rfl, by show svAt z 0 = 5; unfold svAt; rw [HSV.out]; rfl, HBS.out⟩)) (Int.le_refl 0) (by show (0 : Int) < z.sv.length; rw [HSV.out]; decide) (by show s.size ≤ 3000; omega) 4000 HPO.out.symm)
  have BW6 := Lib.hid bw6
  have M6 := Lib.hid m6
  have hz6 : (w5.setCell ⟨ws.heap.size, 4, none⟩ (.slice (some ⟨ga, 0, none⟩) l.length c)).heap.size = w5.heap.size := by simp [World.setCell]
  clear g5 r5 m5 g6 k6 r6 bw6 m6 b5 by5 ty5 HE by6 ty6
  go_wp2_with fail
  generalize (w5.setCell ⟨ws.heap.size, 4, none⟩ (.slice (some ⟨ga, 0, none⟩) l.length c)) = w6 at HH BW6 M6 hz6 ⊢
  refine HH.out.mono ?_
  rintro e w7 ⟨rfl, b7⟩
  have B7 := Lib.hid (BW6.out.trans (b7.mono (by omega)))
  have M7 := Lib.hid (M6.out.nx b7)
  have hz7 := b7.size
  clear b7 HH v0 v1 v2 v3 v4 c4 f4
  go_wp2_with fail
  refine (knownR _ M7.out (by omega)).mono ?_
  rintro e w8 ⟨rfl, b8⟩
  have B8 := Lib.hid (B7.out.trans (b8.mono (by omega)))
  clear b8
  go_wp2
  go_ret
  exact ⟨rfl, B8.out⟩
set_option maxRecDepth 1000000 in
set_option maxHeartbeats 6400000 in
theorem tellsDrop5 (w0 ws : World) (B rb mb g : Nat) (z : Rz) (s : ByteArray) (id : Int) (x : Rc) (Q : Option Addr) (n : Nat) (rs : List Rc) (A : Option Addr) (m : Nat) (AA : Option Addr) (ln ac : Nat)
    (hF : Fm w0 ws w0.heap.size mb id 32768 x Q n rs A m) (hxn : x.nm = s) (hxt : x.t = 1) (hxc : x.c = 1) (hxd : x.da = []) (hrs : ∀ r ∈ rs, GoodA r) (hrl : rs.length ≤ 64) (hR : IsRv ws B rb z) (hm : MaxL ws) (hqs : z.qs = [(g, ⟨s, s, 0, id, 0, 1, 50⟩)]) (hpo : z.port = 4000) (hsv : z.sv = [5, 6])
    (i0 : 0 ≤ id) (i1 : id ≤ 65535) (hs : isN s.data.toList = true) (hss : s.size ≤ 300) (hB : w0.heap.size ≤ B) (hB0 : 0 < w0.heap.size)
    (s2 s4 s5 s6 s7 s8 s10 s11 s12 s14 s15 s16 s17 s18 s19 s20 s21 s22 s23 s24 s25 s26 s27 s28 s29 s30 s31 s32 s33 s34 s35 s36 s37 s38 s39 s40 s41 s42 s43 s44 s45 s46 s47 s48 s49 s50 s51 s52 s53 s54 s55 s56 s57 s58 s59 s60 s61 s62 s63 s64 s65 s66 s67 s68 s69 s70 s71 s72 s73 s74 s75 s76 s77 s78 s79 s80 s81 s82 s83 s84 s85 s86 s87 s88 s89 s90 s91 s92 s93 s94 s95 s96 s97 s98 s99 s100 s101 s102 s103 s104 s105 s106 s107 s108 s109 s110 s111 s112 s113 s114 s115 s116 s117 s118 s119 s120 s121 s122 s123 s124 s125 s126 s127 s128 s129 s130 s131 s132 s133 s134 s135 s136 s137 s138 s139 s140 s141 s142 s143 s144 s145 s146 s147 s148 s149 s150 s151 s152 s153 s154 s155 s156 s157 s158 s159 s160 s161 s162 s163 s164 s165 s166 s167 s168 s169 s170 s171 s172 s173 s174 s175 s176 s177 s178 s179 s180 s181 s182 s183 s184 s185 s186 s187 s188 s189 s190 s191 s192 s193 s194 s195 s196 s197 s198 s199 s200 s201 s202 s203 s204 s205 s206 s207 s208 s209 s210 s211 s212 s213 s214 s215 s216 s217 s218 s219 s220 s221 s222 s223 s224 s225 s226 s227 s228 s229 s230 s231 s232 s233 s234 s235 s236 s237 s238 s239 s240 s241 s242 s243 s244 s245 s246 s247 : Value) : Code.wp Tryd.prog tellsC (bodyPost Tryd.prog Tryd.f4 (fun e w' => e = .returned (.bool true) ∧ Below w0.heap.size w0 w')) { tmps := #[.string s, .slice AA ln ac, s2, .int .i64 5, s4, s5, s6, s7, s8, .pointer (some ⟨rb, 0, none⟩), s10, s11, s12, .pointer (some ⟨mb, 0, none⟩), s14, s15, s16, s17, s18, s19, s20, s21, s22, s23, s24, s25, s26, s27, s28, s29, s30, s31, s32, s33, s34, s35, s36, s37, s38, s39, s40, s41, s42, s43, s44, s45, s46, s47, s48, s49, s50, s51, s52, s53, s54, s55, s56, s57, s58, s59, s60, s61, s62, s63, s64, s65, s66, s67, s68, s69, s70, s71, s72, s73, s74, s75, s76, s77, s78, s79, s80, s81, s82, s83, s84, s85, s86, s87, s88, s89, s90, s91, s92, s93, s94, s95, s96, s97, s98, s99, s100, s101, s102, s103, s104, s105, s106, s107, s108, s109, s110, s111, s112, s113, s114, s115, s116, s117, s118, s119, s120, s121, s122, s123, s124, s125, s126, s127, s128, s129, s130, s131, s132, s133, s134, s135, s136, s137, s138, s139, s140, s141, s142, s143, s144, s145, s146, s147, s148, s149, s150, s151, s152, s153, s154, s155, s156, s157, s158, s159, s160, s161, s162, s163, s164, s165, s166, s167, s168, s169, s170, s171, s172, s173, s174, s175, s176, s177, s178, s179, s180, s181, s182, s183, s184, s185, s186, s187, s188, s189, s190, s191, s192, s193, s194, s195, s196, s197, s198, s199, s200, s201, s202, s203, s204, s205, s206, s207, s208, s209, s210, s211, s212, s213, s214, s215, s216, s217, s218, s219, s220, s221, s222, s223, s224, s225, s226, s227, s228, s229, s230, s231, s232, s233, s234, s235, s236, s237, s238, s239, s240, s241, s242, s243, s244, s245, s246, s247], defers := [] } ws := by
  unfold tellsC
  conv => arg 2; whnf
  dsimp only
  have hrlo := hR.lo
  have hrlt := hR.b.lt
  have hws : w0.heap.size ≤ ws.heap.size := by omega
  have b1 : Below ws.heap.size ws (ws.alloc (.cells #[.int .u32 5, .int .i64 53, .int .u32 0, .int .i64 4000, .slice none 0 0] 36)) := al (rf ws) _
  have GB0 := Blk.new ws 36 #[.int .u32 5, .int .i64 53, .int .u32 0, .int .i64 4000, .slice none 0 0]
  have F0 := hF.nx b1 hws
  have R0 := hR.nx b1
  have M0 := hm.nx b1
  have hz0 : (ws.alloc (.cells #[.int .u32 5, .int .i64 53, .int .u32 0, .int .i64 4000, .slice none 0 0] 36)).heap.size = ws.heap.size + 1 := by simp
  have ngm : ws.heap.size ≠ mb := GB0.ne_ F0.b (by decide)
  have b2 : Below ws.heap.size ws (ws.alloc (.cells #[.int .u32 5, .int .i64 53, .int .u32 0, .int .i64 4001, .slice none 0 0] 36)) := al (rf ws) _
  have GW : Blk (ws.alloc (.cells #[.int .u32 5, .int .i64 53, .int .u32 0, .int .i64 4001, .slice none 0 0] 36)) ws.heap.size 36 #[.int .u32 5, .int .i64 53, .int .u32 0, .int .i64 4001, .slice none 0 0] := Blk.new _ _ _
  have FW : Fm w0 (ws.alloc (.cells #[.int .u32 5, .int .i64 53, .int .u32 0, .int .i64 4001, .slice none 0 0] 36)) w0.heap.size mb id 32768 x Q n rs A m := hF.nx b2 hws
  have BWW : Below w0.heap.size w0 (ws.alloc (.cells #[.int .u32 5, .int .i64 53, .int .u32 0, .int .i64 4001, .slice none 0 0] 36)) := FW.be
  have hzW : (ws.alloc (.cells #[.int .u32 5, .int .i64 53, .int .u32 0, .int .i64 4001, .slice none 0 0] 36)).heap.size = ws.heap.size + 1 := by simp
  have RW := hR.nx b2
  have MW := hm.nx b2
  have y0 := FW.b.cell 0
  have y1 := FW.b.cell 1
  have y2 := FW.b.cell 2
  have y3 := FW.b.cell 3
  simp only [List.getElem?_toArray, List.getElem?_cons_zero, List.getElem?_cons_succ] at y0 y1 y2 y3
  have hzM : wrongI ⟨id, 32768, [x], rs, Q, A, n, m⟩ = 0 := good_wrong i0 i1 (by omega) (by omega) hxt hxc (by rw [hxn]; exact hs) hrs hrl
  have hxs : x.nm.size ≤ 3000 := by rw [hxn]; omega
  have HE := Lib.hid (encD _ ⟨id, 32768, [x], rs, Q, A, n, m⟩ (FW.is (by omega) hxs hxd) hzM MW)
  have HF := Lib.hid FW
  have HGW := Lib.hid GW
  have HRW := Lib.hid RW
  have HMW := Lib.hid MW
  have HBW := Lib.hid BWW
  have HZM := Lib.hid hzM
  have HRS := Lib.hid hrs
  have HQS := Lib.hid hqs
  have HPO := Lib.hid hpo
  have HSV := Lib.hid hsv
  have HXT := Lib.hid hxt
  have HXC := Lib.hid hxc
  have HXN := Lib.hid hxn
  have HS := Lib.hid hs
  have HSZ := Lib.hid hF.sz
  clear FW GW RW MW BWW hzM b2 b1 GB0 F0 R0 M0 hF hR hm hqs hpo hsv hrs hxt hxc hxn hxd hz0
  go_wp2_with fail
  have hzW4 : ws.heap.size + 1 ≤ (ws.alloc (.cells #[.int .u32 5, .int .i64 53, .int .u32 0, .int .i64 4001, .slice none 0 0] 36)).heap.size := by omega
  generalize (ws.alloc (.cells #[.int .u32 5, .int .i64 53, .int .u32 0, .int .i64 4001, .slice none 0 0] 36)) = w4 at HE HGW HRW HMW HBW hzW4 ⊢
  refine HE.out.mono ?_
  rintro e w5 ⟨ga, c, rfl, by5, ty5, l1, l2, b5⟩
  have g5 := HGW.out.nx b5
  have r5 := HRW.out.nx b5
  have m5 := HMW.out.nx b5
  obtain ⟨l, hl⟩ : ∃ l, encM ⟨id, 32768, [x], rs, Q, A, n, m⟩ = l := ⟨_, rfl⟩
  rw [hl] at by5 l1 l2 ⊢
  have g6 := g5.set_ 4 (.slice (some ⟨ga, 0, none⟩) l.length c)
  have k6 : KeepT w5.heap.size [36] w5 (w5.setCell ⟨ws.heap.size, 4, none⟩ (.slice (some ⟨ga, 0, none⟩) l.length c)) := KeepT.of_set g5 _ (.inr (by simp)) (Nat.le_refl _)
  have r6 := r5.keep k6 (by decide) (by decide) (by decide) (by decide)
  have hz5 := b5.size
  have bw6 : Below w0.heap.size w0 (w5.setCell ⟨ws.heap.size, 4, none⟩ (.slice (some ⟨ga, 0, none⟩) l.length c)) := (HBW.out.trans (b5.mono (by omega))).setCell hws _
  have m6 := (HMW.out.nx b5).below ((Below.refl ws.heap.size w5).setCell (Nat.le_refl _) (p := ⟨ws.heap.size, 4, none⟩) (.slice (some ⟨ga, 0, none⟩) l.length c)) (by omega)
  have c4 := g5.cell 4
  have f4 := g5.frozen 4
  have v0 := g6.cell 0
  have v1 := g6.cell 1
  have v2 := g6.cell 2
  have v3 := g6.cell 3
  have v4 := g6.cell 4
  simp only [List.getElem?_toArray, List.getElem?_cons_zero, List.getElem?_cons_succ] at c4 v0 v1 v2 v3 v4
  have HH := Lib.hid (hearPort (w5.setCell ⟨ws.heap.size, 4, none⟩ (.slice (some ⟨ga, 0, none⟩) l.length c)) B rb z 5 53 0 4001 3 0 (some ⟨ga, 0, none⟩) l.length c r6 (.inl (by rw [HPO.out]; rfl)))
  have BW6 := Lib.hid bw6
  have M6 := Lib.hid m6
  have hz6 : (w5.setCell ⟨ws.heap.size, 4, none⟩ (.slice (some ⟨ga, 0, none⟩) l.length c)).heap.size = w5.heap.size := by simp [World.setCell]
  clear g5 r5 m5 g6 k6 r6 bw6 m6 b5 by5 ty5 HE
  go_wp2_with fail
  generalize (w5.setCell ⟨ws.heap.size, 4, none⟩ (.slice (some ⟨ga, 0, none⟩) l.length c)) = w6 at HH BW6 M6 hz6 ⊢
  refine HH.out.mono ?_
  rintro e w7 ⟨rfl, b7⟩
  have B7 := Lib.hid (BW6.out.trans (b7.mono (by omega)))
  have M7 := Lib.hid (M6.out.nx b7)
  have hz7 := b7.size
  clear b7 HH v0 v1 v2 v3 v4 c4 f4
  go_wp2_with fail
  refine (knownR _ M7.out (by omega)).mono ?_
  rintro e w8 ⟨rfl, b8⟩
  have B8 := Lib.hid (B7.out.trans (b8.mono (by omega)))
  clear b8
  go_wp2
  go_ret
  exact ⟨rfl, B8.out⟩
end
section
open Go.RowKit Go.Maps

set_option maxRecDepth 1000000 in
set_option maxHeartbeats 6400000 in
theorem tellsKeep (w0 ws : World) (B rb mb g : Nat) (z : Rz) (s : ByteArray) (id : Int) (x : Rc) (Q : Option Addr) (n : Nat) (rs : List Rc) (A : Option Addr) (m : Nat) (AA : Option Addr) (ac : Nat) (addrs : List Int) (wg : Int)
    (hF : Fm w0 ws w0.heap.size mb id 32768 x Q n rs A m) (hxn : x.nm = s) (hxt : x.t = 1) (hxc : x.c = 1) (hxd : x.da = []) (hrs : ∀ r ∈ rs, GoodA r) (hrl : rs.length ≤ 64) (hR : IsRv ws B rb z) (hm : MaxL ws) (hqs : z.qs = [(g, ⟨s, s, 0, id, 0, 1, 50⟩)]) (hpo : z.port = 4000) (hsv : z.sv = [5, 6])
    (i0 : 0 ≤ id) (i1 : id ≤ 65535) (hs : isN s.data.toList = true) (hss : s.size ≤ 300) (hs0 : s.size ≠ 0) (hB : w0.heap.size ≤ B) (hB0 : 0 < w0.heap.size)
    (hw : wg < 1 ∨ 5 < wg) (hK : IsKp ws B z.km none 0 [] (.map [])) (hage : z.age = .slice none 0 0) (hse : 0 ≤ z.sent ∧ z.sent ≤ 100) (hkey : rs.map Rc.key = (addrs.map (recT s 9)).map Rc.key) (ha1 : 1 ≤ addrs.length) (ha2 : addrs.length ≤ 20) (har : ∀ a ∈ addrs, 0 ≤ a ∧ a < 4294967296) (hrd : Reads w0 w0.heap.size 1 AA addrs.length (addrs.map (Value.int .u32)))
    (s2 s4 s5 s6 s7 s8 s10 s11 s12 s14 s15 s16 s17 s18 s19 s20 s21 s22 s23 s24 s25 s26 s27 s28 s29 s30 s31 s32 s33 s34 s35 s36 s37 s38 s39 s40 s41 s42 s43 s44 s45 s46 s47 s48 s49 s50 s51 s52 s53 s54 s55 s56 s57 s58 s59 s60 s61 s62 s63 s64 s65 s66 s67 s68 s69 s70 s71 s72 s73 s74 s75 s76 s77 s78 s79 s80 s81 s82 s83 s84 s85 s86 s87 s88 s89 s90 s91 s92 s93 s94 s95 s96 s97 s98 s99 s100 s101 s102 s103 s104 s105 s106 s107 s108 s109 s110 s111 s112 s113 s114 s115 s116 s117 s118 s119 s120 s121 s122 s123 s124 s125 s126 s127 s128 s129 s130 s131 s132 s133 s134 s135 s136 s137 s138 s139 s140 s141 s142 s143 s144 s145 s146 s147 s148 s149 s150 s151 s152 s153 s154 s155 s156 s157 s158 s159 s160 s161 s162 s163 s164 s165 s166 s167 s168 s169 s170 s171 s172 s173 s174 s175 s176 s177 s178 s179 s180 s181 s182 s183 s184 s185 s186 s187 s188 s189 s190 s191 s192 s193 s194 s195 s196 s197 s198 s199 s200 s201 s202 s203 s204 s205 s206 s207 s208 s209 s210 s211 s212 s213 s214 s215 s216 s217 s218 s219 s220 s221 s222 s223 s224 s225 s226 s227 s228 s229 s230 s231 s232 s233 s234 s235 s236 s237 s238 s239 s240 s241 s242 s243 s244 s245 s246 s247 : Value) : Code.wp Tryd.prog tellsC (bodyPost Tryd.prog Tryd.f4 (fun e w' => e = .returned (.bool true) ∧ Below w0.heap.size w0 w')) { tmps := #[.string s, .slice AA addrs.length ac, s2, .int .i64 wg, s4, s5, s6, s7, s8, .pointer (some ⟨rb, 0, none⟩), s10, s11, s12, .pointer (some ⟨mb, 0, none⟩), s14, s15, s16, s17, s18, s19, s20, s21, s22, s23, s24, s25, s26, s27, s28, s29, s30, s31, s32, s33, s34, s35, s36, s37, s38, s39, s40, s41, s42, s43, s44, s45, s46, s47, s48, s49, s50, s51, s52, s53, s54, s55, s56, s57, s58, s59, s60, s61, s62, s63, s64, s65, s66, s67, s68, s69, s70, s71, s72, s73, s74, s75, s76, s77, s78, s79, s80, s81, s82, s83, s84, s85, s86, s87, s88, s89, s90, s91, s92, s93, s94, s95, s96, s97, s98, s99, s100, s101, s102, s103, s104, s105, s106, s107, s108, s109, s110, s111, s112, s113, s114, s115, s116, s117, s118, s119, s120, s121, s122, s123, s124, s125, s126, s127, s128, s129, s130, s131, s132, s133, s134, s135, s136, s137, s138, s139, s140, s141, s142, s143, s144, s145, s146, s147, s148, s149, s150, s151, s152, s153, s154, s155, s156, s157, s158, s159, s160, s161, s162, s163, s164, s165, s166, s167, s168, s169, s170, s171, s172, s173, s174, s175, s176, s177, s178, s179, s180, s181, s182, s183, s184, s185, s186, s187, s188, s189, s190, s191, s192, s193, s194, s195, s196, s197, s198, s199, s200, s201, s202, s203, s204, s205, s206, s207, s208, s209, s210, s211, s212, s213, s214, s215, s216, s217, s218, s219, s220, s221, s222, s223, s224, s225, s226, s227, s228, s229, s230, s231, s232, s233, s234, s235, s236, s237, s238, s239, s240, s241, s242, s243, s244, s245, s246, s247], defers := [] } ws := by
  unfold tellsC
  conv => arg 2; whnf
  dsimp only
  have hrlo := hR.lo
  have hrlt := hR.b.lt
  have hws : w0.heap.size ≤ ws.heap.size := by omega
  have b2 : Below ws.heap.size ws (ws.alloc (.cells #[.int .u32 5, .int .i64 53, .int .u32 0, .int .i64 4000, .slice none 0 0] 36)) := al (rf ws) _
  have GW : Blk (ws.alloc (.cells #[.int .u32 5, .int .i64 53, .int .u32 0, .int .i64 4000, .slice none 0 0] 36)) ws.heap.size 36 #[.int .u32 5, .int .i64 53, .int .u32 0, .int .i64 4000, .slice none 0 0] := Blk.new _ _ _
  have FW : Fm w0 (ws.alloc (.cells #[.int .u32 5, .int .i64 53, .int .u32 0, .int .i64 4000, .slice none 0 0] 36)) w0.heap.size mb id 32768 x Q n rs A m := hF.nx b2 hws
  have hzW : (ws.alloc (.cells #[.int .u32 5, .int .i64 53, .int .u32 0, .int .i64 4000, .slice none 0 0] 36)).heap.size = ws.heap.size + 1 := by simp
  have RW := hR.nx b2
  have MW := hm.nx b2
  have KW := hK.nx b2
  have y0 := FW.b.cell 0
  have y1 := FW.b.cell 1
  have y2 := FW.b.cell 2
  have y3 := FW.b.cell 3
  simp only [List.getElem?_toArray, List.getElem?_cons_zero, List.getElem?_cons_succ] at y0 y1 y2 y3
  have hzM : wrongI ⟨id, 32768, [x], rs, Q, A, n, m⟩ = 0 := good_wrong i0 i1 (by omega) (by omega) hxt hxc (by rw [hxn]; exact hs) hrs hrl
  have hxs : x.nm.size ≤ 3000 := by rw [hxn]; omega
  have HE := Lib.hid (encD _ ⟨id, 32768, [x], rs, Q, A, n, m⟩ (FW.is (by omega) hxs hxd) hzM MW)
  have e1 : (wg == 1) = false := by rw [beq_eq_false_iff_ne]; omega
  have e2 : (wg == 2) = false := by rw [beq_eq_false_iff_ne]; omega
  have e3 : (wg == 3) = false := by rw [beq_eq_false_iff_ne]; omega
  have e4 : (wg == 4) = false := by rw [beq_eq_false_iff_ne]; omega
  have e5 : (wg == 5) = false := by rw [beq_eq_false_iff_ne]; omega
  have hT : keepL 3 [] rs = [⟨lowS s, ⟨#[]⟩, false, addrs, 93⟩] := by
    rw [keepL_key hkey, keep_one addrs ha1 har]; rfl
  have HTT := Lib.hid hT
  have HSZ := Lib.hid hF.sz
  have HGW := Lib.hid GW
  have HRW := Lib.hid RW
  have HMW := Lib.hid MW
  have HKW := Lib.hid KW
  have HBW := Lib.hid FW.be
  have HZM := Lib.hid hzM
  have HQS := Lib.hid hqs
  have HPO := Lib.hid hpo
  have HSV := Lib.hid hsv
  have HXT := Lib.hid hxt
  have HXC := Lib.hid hxc
  have HXN := Lib.hid hxn
  have HS := Lib.hid hs
  have HAG := Lib.hid hage
  have HRD := Lib.hid hrd
  have HW := Lib.hid hw
  have hse0 := hse.1
  have hse1 := hse.2
  clear FW GW RW MW KW hzM b2 hF hR hm hK hqs hpo hsv hrs hxt hxc hxn hxd hs hage hrd hw hkey hT hse har
  go_wp2_with fail
  have hzW4 : ws.heap.size + 1 ≤ (ws.alloc (.cells #[.int .u32 5, .int .i64 53, .int .u32 0, .int .i64 4000, .slice none 0 0] 36)).heap.size := by omega
  generalize (ws.alloc (.cells #[.int .u32 5, .int .i64 53, .int .u32 0, .int .i64 4000, .slice none 0 0] 36)) = w4 at HE HGW HRW HMW HKW HBW hzW4 ⊢
  refine HE.out.mono ?_
  rintro e w5 ⟨ga, c, rfl, by5, ty5, l1, l2, b5⟩
  have g5 := HGW.out.nx b5
  have r5 := HRW.out.nx b5
  have kp5 := HKW.out.nx b5
  obtain ⟨l, hl⟩ : ∃ l, encM ⟨id, 32768, [x], rs, Q, A, n, m⟩ = l := ⟨_, rfl⟩
  rw [hl] at by5 l1 l2 ⊢
  have g6 := g5.set_ 4 (.slice (some ⟨ga, 0, none⟩) l.length c)
  have k6 : KeepT w5.heap.size [36] w5 (w5.setCell ⟨ws.heap.size, 4, none⟩ (.slice (some ⟨ga, 0, none⟩) l.length c)) := KeepT.of_set g5 _ (.inr (by simp)) (Nat.le_refl _)
  have r6 := r5.keep k6 (by decide) (by decide) (by decide) (by decide)
  have kp6 := kp5.keep k6 (by decide) (by decide) (by decide) (by decide)
  have hz5 := b5.size
  have bw6 : Below w0.heap.size w0 (w5.setCell ⟨ws.heap.size, 4, none⟩ (.slice (some ⟨ga, 0, none⟩) l.length c)) := (HBW.out.trans (b5.mono (by omega))).setCell hws _
  have m6 := (HMW.out.nx b5).below ((Below.refl ws.heap.size w5).setCell (Nat.le_refl _) (p := ⟨ws.heap.size, 4, none⟩) (.slice (some ⟨ga, 0, none⟩) l.length c)) (by omega)
  have c4 := g5.cell 4
  have f4 := g5.frozen 4
  have v0 := g6.cell 0
  have v1 := g6.cell 1
  have v2 := g6.cell 2
  have v3 := g6.cell 3
  have v4 := g6.cell 4
  simp only [List.getElem?_toArray, List.getElem?_cons_zero, List.getElem?_cons_succ] at c4 v0 v1 v2 v3 v4
  obtain ⟨by6, ty6⟩ := bytes_keepT by5 ty5 k6 (show w5.heap.size ≤ (w5.setCell ⟨ws.heap.size, 4, none⟩ (.slice (some ⟨ga, 0, none⟩) l.length c)).heap.size by simp [World.setCell]) (by decide)
  have ek : ∀ L' : List (Nat × En), (L'.map fun p => p.2.pl) = [(⟨lowS s, ⟨#[]⟩, false, addrs, 93⟩ : Pe)] → ∃ p, L' = [p] ∧ p.2.leads = false ∧ p.2.ad = addrs ∧ p.2.behind = 93 ∧ lookL L' 3 s = some p := fun L' h => by
    obtain ⟨p, hp, h1, h2, h3, h4⟩ := one_of h
    refine ⟨p, hp, h2, h3, h4, ?_⟩
    rw [hp]
    exact look_of (List.pairwise_singleton _ _) (List.mem_singleton.2 rfl) h1 (by rw [h4]; show (3 : Int) < 93; omega)
  have HEK := Lib.hid ek
  have HH := Lib.hid (hearKeep (w5.setCell ⟨ws.heap.size, 4, none⟩ (.slice (some ⟨ga, 0, none⟩) l.length c)) B rb g z ⟨s, s, 0, id, 0, 1, 50⟩ ⟨id, 32768, [x], rs, Q, A, n, m⟩ x 5 0 3 0 0 l ga c none 0 [] (.map []) [⟨lowS s, ⟨#[]⟩, false, addrs, 93⟩] r6 HQS.out m6 (by have := r6.lo; have := r6.b.lt; omega) (by omega) HZM.out (fun r hr => (HSZ.out r hr).1) (fun r hr => (HSZ.out r hr).2) rfl HXT.out HXC.out hxs hl.symm by6 ty6 (by omega) l2
    (by show bits .and .i64 32768 32768 = 32768; decide +kernel) (by show bits .and .i64 32768 15 = 0; decide +kernel) rfl (Int.le_refl 0) (by show (0 : Int) < z.sv.length; rw [HSV.out]; decide) (by show (5 : Int) = svAt z 0; unfold svAt; rw [HSV.out]; rfl) (by show (low s == low x.nm) = true; rw [HXN.out]; exact beq_self_eq_true _) (by show s.size ≤ 3000; omega) 4000 HPO.out.symm rfl HAG.out kp6 HTT.out (List.pairwise_singleton _ _) (by simp)
    (fun L' h => by
      obtain ⟨p, hp, h1, h2, h3, h4⟩ := HEK.out L' h
      refine ⟨by show lookL L' 3 s ≠ none; rw [h4]; simp, 0, p.2.ad, s, 0, ?_⟩
      exact chase_end h4 h1) (fun p hp h => by rw [List.mem_singleton.1 hp] at h; cases h) (fun p hp => by rw [List.mem_singleton.1 hp]; show addrs.length ≤ 1000000; omega) (Int.le_refl 0) (by show (0 : Int) ≤ 8; omega) HS.out (by rw [HSV.out]; decide) (by rw [HSV.out]; decide) (by omega) (by omega) hse0 (by omega))
  have BW6 := Lib.hid bw6
  have M6 := Lib.hid m6
  have hz6 : (w5.setCell ⟨ws.heap.size, 4, none⟩ (.slice (some ⟨ga, 0, none⟩) l.length c)).heap.size = w5.heap.size := by simp [World.setCell]
  clear g5 r5 kp5 g6 k6 r6 kp6 bw6 m6 b5 by5 ty5 HE by6 ty6 ek
  go_wp2_with fail
  generalize (w5.setCell ⟨ws.heap.size, 4, none⟩ (.slice (some ⟨ga, 0, none⟩) l.length c)) = w6 at HH BW6 M6 hz6 ⊢
  refine HH.out.mono ?_
  rintro e w7 ⟨AA7, ac7, L7, D7, err, ads, nm, fo, A7, k7, QA7, qc7, FA, fc, rfl, ht7, hc7, R7, K7, own7, ad7, kt7, b7⟩
  obtain ⟨p7, hp7, hl7, had7, hbh7, hlk7⟩ := HEK.out L7 ht7
  have hce : some (err, ads) = some ((0 : Int), p7.2.ad) := congrArg Prod.fst (hc7.symm.trans (chase_end (n := 8) hlk7 hl7))
  rw [had7] at hce
  injection hce with hce
  injection hce with he1 he2
  subst he1 he2
  obtain ⟨gf, rfl, _, hcf⟩ := row3f (d := ⟨s, 0, ads, A7, k7⟩) (show w7.ownsRow w6.heap.size 39 3 (.slice FA 1 fc) 1 _ from own7)
  have u0 := hcf 0 _ rfl
  have u1 := hcf 1 _ rfl
  have u2 := hcf 2 _ rfl
  simp only at u0 u1 u2
  have hlk92 : lookL L7 92 s = some p7 := by
    have h1 := (one_of ht7)
    obtain ⟨p, hp, h1, h2, h3, h4⟩ := h1
    rw [hp7] at hp
    injection hp with hp
    subst hp
    rw [hp7]
    exact look_of (List.pairwise_singleton _ _) (List.mem_singleton.2 rfl) h1 (by rw [hbh7]; omega)
  have hlk93 : lookL L7 93 s = none := look_old fun p hp _ => by
    rw [hp7] at hp
    rw [List.mem_singleton.1 hp, hbh7]
    omega
  have B7 := Lib.hid (BW6.out.trans (b7.mono hB))
  have M7 := Lib.hid (M6.out.below b7 (by omega))
  have HR7 := Lib.hid R7
  have HK7 := Lib.hid K7
  have HAD7 := Lib.hid ad7
  have HL92 := Lib.hid hlk92
  have HL93 := Lib.hid hlk93
  have HP7 := Lib.hid hp7
  have HLE := Lib.hid hl7
  have HPA := Lib.hid had7
  have hz7 := b7.size
  clear ht7 hc7 R7 K7 own7 ad7 kt7 b7 hp7 hl7 had7 hbh7 hlk7 hcf hlk92 hlk93 HH v0 v1 v2 v3 v4 c4 f4 HEK
  have lnn : ((ads.length : Int) != ads.length) = false := by simp
  rcases HW.out with hw1 | hw1
  all_goals
    have hw2 : ¬ (1 ≤ wg ∧ wg ≤ 5) := by omega
    go_wp2
    clear u0 u1 hl
    obtain ⟨wz, hwz⟩ : ∃ wz, wz = w7 := ⟨_, rfl⟩
    have HWZ := Lib.hid hwz
    clear hwz
    have RDW : Hid (Reads w7 w0.heap.size 1 AA ads.length (ads.map (Value.int .u32))) := HRD.out.keep fun p hp => B7.out.cell hp
    go_loopw [20] (fun kv ws => ∃ (i nd : Nat), kv = .int .i64 i ∧ i ≤ ads.length ∧ Hid (ws = wz.drewN nd)) (fun kv _ => ads.length - (intOf kv).toNat)
    case atStart => exact ⟨0, 0, rfl, Nat.zero_le _, HWZ.out.symm⟩
    case round =>
      obtain ⟨i, nd, rfl, hi, HWR⟩ := hrel
      have ew : wr = w7.drewN nd := by rw [HWR.out, HWZ.out]
      have BD : Hid (Below w7.heap.size w7 wr) := by show Below _ _ _; rw [ew]; exact dn (rf w7) nd
      have u2r : wr.cell? ⟨gf, 2, none⟩ = some (.slice A7 ads.length k7) := by rw [ew]; exact u2
      by_cases hlt : i < ads.length
      · obtain ⟨ad1, v1, hA1, _, hv1, hc1⟩ := (Reads.of_own HAD7.out).at_ hlt
        obtain ⟨ad2, v2, hA2, _, hv2, hc2⟩ := RDW.out.at_ hlt
        obtain ⟨a, ha⟩ : ∃ a, ads[i]? = some a := ⟨_, List.getElem?_eq_getElem hlt⟩
        have e1 : v1 = .int .u32 a := by rw [List.getElem?_map, ha] at hv1; exact (Option.some.inj hv1).symm
        have e2 : v2 = .int .u32 a := by rw [List.getElem?_map, ha] at hv2; exact (Option.some.inj hv2).symm
        subst e1 e2 hA1 hA2
        have d1 : wr.cell? (ad1.add i) = some (.int .u32 a) := by rw [ew]; exact hc1
        have d2 : wr.cell? (ad2.add i) = some (.int .u32 a) := by rw [ew]; exact hc2
        have ann : (a != a) = false := by simp
        have i0 : (0 : Int) ≤ i := by omega
        have i1 : (i : Int) < ads.length := by omega
        clear ew hv1 hv2 hc1 hc2 ha
        go_wp2
        go_quiet (fail)
        go_wp2
        go_roundw
        case rel => exact ⟨i + 1, nd + nq, by go_num, by omega, by show _ = _; rw [HWR.out, World.drewN_drewN]⟩
        case measure => simp [intOf]; omega
      · have hbp : 0 < B := by omega
        have hBr : B ≤ wr.heap.size := by have h1 := HR7.out.lo; have h2 := HR7.out.b.lt; have h3 := BD.out.size; omega
        have HA92 := Lib.hid (askKN wr B rb { z with age := .slice AA7 L7.length ac7, qs := [], QA := QA7, qc := qc7 } s 92 0 AA7 ac7 L7 D7 p7 (HR7.out.nx BD.out) (HK7.out.nx BD.out) rfl HL92.out HLE.out (by rw [HPA.out]; omega) (M7.out.nx BD.out) (by show ([] : List (Nat × Qn)).length < 32; decide) HS.out (by omega) hs0 (by show 1 ≤ z.sv.length; rw [HSV.out]; decide) (by show z.sv.length ≤ 3; rw [HSV.out]; decide) (by omega) (by omega) hse0 (by show z.sent ≤ _; omega) hBr hbp (fun p hp => by cases hp))
        have B7r := Lib.hid (B7.out.trans (BD.out.mono (by have h1 := HR7.out.b.lt; have h2 := HR7.out.lo; omega)))
        have M7r := Lib.hid (M7.out.nx BD.out)
        have K7r := Lib.hid (HK7.out.nx BD.out)
        clear u2r ew
        go_wp2_with fail
        refine HA92.out.mono ?_
        rintro e w8 ⟨A8, k8, QA8, qc8, FA8, DA8, fc8, dc8, rfl, R8, _, _, _, _, kt8, b8⟩
        have K8 := K7r.out.keep kt8 (by decide) (by decide) (by decide) (by decide)
        have M8 := Lib.hid (M7r.out.below b8 hbp)
        have B8 := Lib.hid (B7r.out.trans (b8.mono hB))
        have hz8 := b8.size
        have HA93 := Lib.hid (askKM w8 B rb { z with age := .slice AA7 L7.length ac7, qs := [], QA := QA8, qc := qc8 } s 93 0 AA7 ac7 L7 D7 R8 K8 HL93.out M8.out (by show ([] : List (Nat × Qn)).length < 32; decide) HS.out (by omega) hs0 (by show 1 ≤ z.sv.length; rw [HSV.out]; decide) (by show z.sv.length ≤ 3; rw [HSV.out]; decide) (by omega) (by omega) hse0 (by show z.sent ≤ _; omega) (by omega) hbp (fun p hp => by cases hp))
        clear R8 K8 kt8 b8 HA92
        go_wp2_with fail
        refine HA93.out.mono ?_
        rintro e w9 ⟨g9, QA9, qc9, A9, k9, hg9, FA9, DA9, fc9, dc9, rfl, _, _, _, _, _, _, b9⟩
        have M9 := Lib.hid (M8.out.below b9 hbp)
        have B9 := Lib.hid (B8.out.trans (b9.mono hB))
        have hz9 := b9.size
        clear b9 HA93
        go_wp2_with fail
        refine (knownR _ M9.out (by omega)).mono ?_
        rintro e w10 ⟨rfl, b10⟩
        have B10 := Lib.hid (B9.out.trans (b10.mono (by omega)))
        clear b10
        go_wp2
        go_ret
        exact ⟨rfl, B10.out⟩
end
section
open Go.RowKit Go.Maps

set_option maxRecDepth 1000000 in
set_option maxHeartbeats 6400000 in
theorem tells_walk (w : World) (s : ByteArray) (AA : Option Addr) (addrs : List Int) (ac : Nat) (draw wg : Int) (hrd : Reads w w.heap.size 1 AA addrs.length (addrs.map (Value.int .u32))) (har : ∀ a ∈ addrs, 0 ≤ a ∧ a < 4294967296) (hm : MaxL w) (hpos : 0 < w.heap.size) :
    Calls Tryd.prog 4 #[.string s, .slice AA addrs.length ac, .int .i64 draw, .int .i64 wg] w fun e w' => e = .returned (.bool true) ∧ Below w.heap.size w w' := by
  have KN := Lib.hid (knownR w hm hpos)
  by_cases ha1 : 1 ≤ addrs.length
  rotate_left
  · have h1 : (addrs.length : Int) < 1 := by omega
    clear hrd har hm
    go_enter Tryd.func4, Tryd.ntmps4
    go_wp2_with fail
    refine KN.out.mono ?_
    rintro e w1 ⟨rfl, b1⟩
    go_wp2
    go_ret
    exact ⟨rfl, b1⟩
  by_cases ha2 : addrs.length ≤ 20
  rotate_left
  · have h1 : ¬ (addrs.length : Int) < 1 := by omega
    have h2 : (20 : Int) < addrs.length := by omega
    clear hrd har hm
    go_enter Tryd.func4, Tryd.ntmps4
    go_wp2_with fail
    refine KN.out.mono ?_
    rintro e w1 ⟨rfl, b1⟩
    go_wp2
    go_ret
    exact ⟨rfl, b1⟩
  have h1 : ¬ (addrs.length : Int) < 1 := by omega
  have h2 : ¬ (20 : Int) < addrs.length := by omega
  by_cases hss : s.size ≤ 300
  rotate_left
  · have h3 : (300 : Int) < s.size := by omega
    clear hrd har hm
    go_enter Tryd.func4, Tryd.ntmps4
    go_wp2_with fail
    refine KN.out.mono ?_
    rintro e w1 ⟨rfl, b1⟩
    go_wp2
    go_ret
    exact ⟨rfl, b1⟩
  have h3 : ¬ (300 : Int) < s.size := by omega
  clear KN
  have b0 : Below w.heap.size w (w.alloc (.cells #[.int .u32 5, .int .u32 6] 33)) := al (rf w) _
  have HN := Lib.hid (newC2 (w.alloc (.cells #[.int .u32 5, .int .u32 6] 33)) (some ⟨w.heap.size, 0, none⟩) [5, 6] 2 4000 (Reads.blk (blk_at _ _ _ rfl) rfl rfl) (by simp) (by simp) (by simp) (by omega) (by omega))
  have B0 := Lib.hid b0
  have HM := Lib.hid hm
  have HRD := Lib.hid hrd
  have HAR := Lib.hid har
  clear b0 hm hrd har
  have hs0w : (w.alloc (.cells #[.int .u32 5, .int .u32 6] 33)).heap.size = w.heap.size + 1 := by simp
  go_enter Tryd.func4, Tryd.ntmps4
  go_wp2_with fail
  refine HN.out.mono ?_
  rintro e w1 ⟨z, rb, rfl, hR, hK, hsv, hpo, hse, hqs, _, _, hag, hkb, b1⟩
  have B1 := Lib.hid (nx B0.out b1)
  have hz1 := b1.size
  have HSV := Lib.hid hsv
  have HPO := Lib.hid hpo
  have HSE := Lib.hid hse
  have HQS := Lib.hid hqs
  have HAG := Lib.hid hag
  have M1 := HM.out.below B1.out hpos
  unfold ptr
  by_cases hgood : isN s.data.toList = false ∨ s.size = 0
  · have HA := Lib.hid (askBad w1 _ rb z s 0 draw hR M1 hgood (by omega) (by rw [hsv]; decide))
    clear hR hK hsv hpo hse hqs b1 HN hag hgood M1
    go_wp2_with fail
    refine HA.out.mono ?_
    rintro e w2 ⟨gf, rfl, hb, b2⟩
    have c1 := hb.cell 1
    simp only [List.getElem?_toArray, List.getElem?_cons_zero, List.getElem?_cons_succ] at c1
    have B2 := Lib.hid (nx B1.out b2)
    clear hb b2 HA
    go_wp2_with fail
    refine (knownR _ (HM.out.below B2.out hpos) (by have := B2.out.size; omega)).mono ?_
    rintro e w3 ⟨rfl, b3⟩
    have B3 := Lib.hid (nx B2.out b3)
    clear b3
    go_wp2
    go_ret
    exact ⟨rfl, B3.out⟩
  have hN : isN s.data.toList = true := by
    cases h : isN s.data.toList with
    | true => rfl
    | false => exact absurd (.inl h) hgood
  have hs0 : s.size ≠ 0 := fun h => hgood (.inr h)
  have KP1 := Lib.hid (IsKp.none_ (B := (w.alloc (.cells #[.int .u32 5, .int .u32 6] 33)).heap.size) hK hkb)
  have HA := Lib.hid (askE w1 (w.alloc (.cells #[.int .u32 5, .int .u32 6] 33)).heap.size rb z s 0 draw hR hK M1 (by rw [hqs]; decide) hN (by omega) hs0 (by rw [hsv]; decide) (by rw [hsv]; decide) (by omega) (by omega) (by omega) (by omega) b1.size (by simp) (by rw [hqs]; simp))
  have HS := Lib.hid hN
  clear hR hK hsv hpo hse hqs b1 HN hag hgood M1 hN
  go_wp2_with fail
  refine HA.out.mono ?_
  rintro e w2 ⟨g, QA, qc, A2, k2, hg, FA2, DA2, fc2, dc2, rfl, hR2, _, own2, _, hdd, kt2, b2⟩
  have KP2 := Lib.hid (KP1.out.keep kt2 (by decide) (by decide) (by decide) (by decide))
  have B2 := Lib.hid (B1.out.trans (b2.mono (by simp)))
  have hz2 := b2.size
  obtain ⟨id, hid⟩ : ∃ id, idV draw z.sent = id := ⟨_, rfl⟩
  have hidr := idV_le draw z.sent
  rw [hid] at hR2 own2 hdd hidr
  obtain ⟨gd, rfl, _, hc⟩ := row5 (d := ⟨z.port, svAt z 0, askB id s, A2, k2⟩) (show w2.ownsRow w1.heap.size 36 5 (.slice DA2 1 dc2) 1 _ from own2)
  have c4 := hc 4 _ rfl
  have hby := hdd _ (List.mem_singleton.2 rfl)
  have hlen := encLen id 256 ⟨s, 1, 1, 0, [], none, 0⟩ none none 1 0 ⟨HS.out, by show (0 : Int) ≤ 1; omega, by show (1 : Int) ≤ 65535; omega, by show (0 : Int) ≤ 1; omega, by show (1 : Int) ≤ 65535; omega⟩
  obtain ⟨l, hl⟩ : ∃ l, askB id s = l := ⟨_, rfl⟩
  rw [hl] at hby c4
  have hl2 : encM ⟨id, 256, [⟨s, 1, 1, 0, [], none, 0⟩], [], none, none, 1, 0⟩ = l := hl
  rw [hl2] at hlen
  obtain ⟨ga, cap, hv, _, hga, hcap, _, cur, hcur, _, _⟩ := own_form (show w2.ownsRow w1.heap.size 5 1 (.slice A2 l.length k2) l.length _ from hby) hlen.2
  injection hv with hv1 _ hv3
  subst hv1 hv3
  have FD := decC2 w2 ⟨id, 256, [⟨s, 1, 1, 0, [], none, 0⟩], [], none, none, 1, 0⟩ (ask_wrong hidr.1 hidr.2 (by omega) (by omega) rfl rfl HS.out) (by simp) (by simp; omega) (by simp) [] l (by rw [List.append_nil, hl2]) ga 0 k2 (Bytes.own hby) (fun ad e => by injection e with e; subst e; exact ⟨cur, (0, 0), hcur⟩) (by omega) hcap
  have HFD := Lib.hid FD
  have HR2 := Lib.hid hR2
  have HID := Lib.hid hidr
  clear FD hby hcur hlen hl hl2 hc own2 hdd b2 hR2 hidr hid HA kt2
  go_wp2_with fail
  refine HFD.out.mono ?_
  rintro e w3 ⟨M2, ⟨he, e1, e2, e3, e4, i4, b4⟩, hcp, oq, oa, hne⟩
  obtain ⟨id2, fl2, q2, a2, Q2, A3, n2, m2⟩ := M2
  have ea2 : a2 = [] := List.map_eq_nil_iff.1 e4
  simp only [List.map_cons, List.map_nil] at e1 e2 e3
  have e1 := e1.symm
  have e2 := e2.symm
  subst e1 e2 e3 ea2
  have he2 : e = .returned (.tuple #[.agg #[.int .i64 id, .int .i64 256, .slice Q2 1 n2, .slice A3 0 m2], .int .i64 0]) := by rw [he]; rfl
  subst he2
  have B3 := Lib.hid (nx B2.out b4)
  have R3 := Lib.hid (HR2.out.nx b4)
  have KP3 := Lib.hid (KP2.out.nx b4)
  have hz3 := B3.out.size
  have hz23 := b4.size
  have kA : Below w3.heap.size w3 (w3.alloc (.cells #[.int .i64 id, .int .i64 32768, .slice Q2 1 n2, .slice A3 0 m2] 43)) := al (rf w3) _
  have F4 : Hid (Fm w (w3.alloc (.cells #[.int .i64 id, .int .i64 32768, .slice Q2 1 n2, .slice A3 0 m2] 43)) w.heap.size w3.heap.size id 32768 ⟨s, 1, 1, 0, [], none, 0⟩ Q2 n2 [] A3 m2) := by
    have hz02 : w.heap.size ≤ w2.heap.size := by omega
    exact ⟨Blk.new _ _ _, (own_base oq hz02).alloc _, (own_base oa hz02).alloc _, hne, by simp, by simp, hz3, nx B3.out kA⟩
  have R4 := Lib.hid (R3.out.nx kA)
  have KP4 := Lib.hid (KP3.out.nx kA)
  have B4 := Lib.hid (nx B3.out kA)
  have M4 := Lib.hid (HM.out.below B4.out hpos)
  have HXX : (1 : Int) = 1 := rfl
  clear he e4 i4 b4 HFD hcp oq oa hne kA HXX
  go_wp2
  generalize (w3.alloc (.cells #[.int .i64 id, .int .i64 32768, .slice Q2 1 n2, .slice A3 0 m2] 43)) = w4 at F4 R4 KP4 B4 M4 ⊢
  obtain ⟨mb, hmb⟩ : ∃ mb, w3.heap.size = mb := ⟨_, rfl⟩
  rw [hmb] at F4 ⊢
  clear hmb
  go_loopw [15] (fun kv ws => ∃ (k : Nat) (A : Option Addr) (m : Nat) (rs : List Rc), kv = .int .i64 k ∧ k ≤ addrs.length ∧ Hid (Fm w ws w.heap.size mb id 32768 ⟨s, 1, 1, 0, [], none, 0⟩ Q2 n2 rs A m) ∧ Hid (rs.length = k) ∧ Hid (rs.map Rc.key = ((addrs.take k).map (recT s 9)).map Rc.key) ∧
      Hid (IsRv ws (w.alloc (.cells #[.int .u32 5, .int .u32 6] 33)).heap.size rb { z with sent := z.sent + 1, qs := z.qs ++ [(g, ⟨s, s, 0, id, 0, 1, 0 + 50⟩)], QA := QA, qc := qc }) ∧ Hid (IsKp ws (w.alloc (.cells #[.int .u32 5, .int .u32 6] 33)).heap.size z.km none 0 [] (.map [])) ∧ Hid (MaxL ws)) (fun kv _ => addrs.length - (intOf kv).toNat)
  case atStart => exact ⟨0, A3, m2, [], rfl, Nat.zero_le _, F4.out, rfl, rfl, R4.out, KP4.out, M4.out⟩
  case round =>
    clear F4 R4 KP4 M4
    obtain ⟨k, A, m, rs, rfl, hk, HF, HL, HKY, HRr, HKr, HMr⟩ := hrel
    by_cases hlt : k < addrs.length
    · obtain ⟨ad, v, hA, _, hv, hc⟩ := (HRD.out.keep fun p hp => HF.out.be.cell hp : Reads wr w.heap.size 1 AA addrs.length (addrs.map (Value.int .u32))).at_ hlt
      obtain ⟨a, ha⟩ : ∃ a, addrs[k]? = some a := ⟨_, List.getElem?_eq_getElem hlt⟩
      have ev : v = .int .u32 a := by rw [List.getElem?_map, ha] at hv; exact (Option.some.inj hv).symm
      subst ev hA
      obtain ⟨ar0, ar1⟩ := HAR.out a (List.mem_of_getElem? ha)
      have x3 := HF.out.b.cell 3
      have f3 := HF.out.b.frozen 3
      simp only [List.getElem?_toArray, List.getElem?_cons_zero, List.getElem?_cons_succ] at x3
      have k0 : (0 : Int) ≤ k := by omega
      have k1 : (k : Int) < addrs.length := by omega
      clear hv
      have OW := Lib.hid HF.out.a
      have X3 := Lib.hid HF.out.b
      have wsz := HF.out.b.lt
      have wlo := HF.out.lo
      have hll : Hid (rs.length ≤ 20) := by have h := HL.out; show _ ≤ _; omega
      have hl20 := hll.out
      have kb1 : Below wr.heap.size wr ((wr.alloc (.cells #[.int .u8 (a / 16777216), .int .u8 (a / 65536 % 256), .int .u8 (a / 256 % 256), .int .u8 (a % 256)] 5)).alloc (.cells #[.string s, .int .i64 1, .int .i64 1, .int .i64 9, .slice (some ⟨wr.heap.size, 0, none⟩) 4 4] 48)) := al (al (rf wr) _) _
      have hz1w : wr.heap.size ≤ ((wr.alloc (.cells #[.int .u8 (a / 16777216), .int .u8 (a / 65536 % 256), .int .u8 (a / 256 % 256), .int .u8 (a % 256)] 5)).alloc (.cells #[.string s, .int .i64 1, .int .i64 1, .int .i64 9, .slice (some ⟨wr.heap.size, 0, none⟩) 4 4] 48)).heap.size := kb1.size
      go_wp2_with (at_builtin; refine app_any stRc rfl (.tmp 101) (.tmp 116) rfl w.heap.size (.slice A rs.length m) rs.length (rs.flatMap Rc.cs) rfl ((OW.out.alloc (.cells #[.int .u8 (a / 16777216), .int .u8 (a / 65536 % 256), .int .u8 (a / 256 % 256), .int .u8 (a % 256)] 5)).alloc (.cells #[.string s, .int .i64 1, .int .i64 1, .int .i64 9, .slice (some ⟨wr.heap.size, 0, none⟩) 4 4] 48)) (some ⟨wr.heap.size + 1, 0, none⟩) 1 1 [.string s, .int .i64 1, .int .i64 1, .int .i64 9, .slice (some ⟨wr.heap.size, 0, none⟩) 4 4] rfl (reads5 (blk_at _ _ _ (by simp)) rfl) one5 (by omega) (by omega) (by omega) ?_; intro v9 w9 own9 gr9 at9 bel9; obtain ⟨A9, k9, rfl⟩ := own_slice own9; have b9 := ((X3.out.alloc (.cells #[.int .u8 (a / 16777216), .int .u8 (a / 65536 % 256), .int .u8 (a / 256 % 256), .int .u8 (a % 256)] 5)).alloc (.cells #[.string s, .int .i64 1, .int .i64 1, .int .i64 9, .slice (some ⟨wr.heap.size, 0, none⟩) 4 4] 48)).grown gr9 (fun e => own_blk_ne OW.out X3.out (by decide) e.symm); have c9 := b9.cell 3; have f9 := b9.frozen 3; simp only [List.getElem?_toArray, List.getElem?_cons_zero, List.getElem?_cons_succ] at c9)
      have OW2 := (OW.out.alloc (.cells #[.int .u8 (a / 16777216), .int .u8 (a / 65536 % 256), .int .u8 (a / 256 % 256), .int .u8 (a % 256)] 5)).alloc (.cells #[.string s, .int .i64 1, .int .i64 1, .int .i64 9, .slice (some ⟨wr.heap.size, 0, none⟩) 4 4] 48)
      have ob : ((wr.alloc (.cells #[.int .u8 (a / 16777216), .int .u8 (a / 65536 % 256), .int .u8 (a / 256 % 256), .int .u8 (a % 256)] 5)).alloc (.cells #[.string s, .int .i64 1, .int .i64 1, .int .i64 9, .slice (some ⟨wr.heap.size, 0, none⟩) 4 4] 48)).ownsRow w.heap.size 5 1 (.slice (some ⟨wr.heap.size, 0, none⟩) (b4 a).length 4) (b4 a).length (Lib.byteCells (b4 a)) := by
        rw [b4_cells, Int.emod_eq_of_lt (show 0 ≤ a / 16777216 by omega) (show a / 16777216 < 256 by omega)]
        exact (own_lit wr #[.int .u8 (a / 16777216), .int .u8 (a / 65536 % 256), .int .u8 (a / 256 % 256), .int .u8 (a % 256)] 4 rfl (by omega) (by unfold maxLen; omega) rfl).alloc _
      have FN := Lib.hid (HF.out.grow kb1 (by omega) ⟨s, 1, 1, 9, b4 a, some ⟨wr.heap.size, 0, none⟩, 4⟩ ob ⟨by show 4 ≤ 3000; omega, by show s.size ≤ 3000; omega⟩ own9 gr9 (by simpa using at9) bel9)
      have hz9 := gr9.size
      have kt : KeepT wr.heap.size [48, 43] wr (w9.setCell ⟨mb, 3, none⟩ (.slice A9 (rs.length + 1) k9)) :=
        ((KeepT.of_below kb1 (Nat.le_refl _)).trans (KeepT.of_row gr9 OW2 (.inr (by simp)) hz1w)).trans (KeepT.of_set b9 _ (.inr (by simp)) (Nat.le_trans hz1w hz9))
      have RN := Lib.hid (HRr.out.keep kt (by decide) (by decide) (by decide) (by decide))
      have KN := Lib.hid (HKr.out.keep kt (by decide) (by decide) (by decide) (by decide))
      have MN := Lib.hid (HM.out.below FN.out.be hpos)
      have LN : Hid ((rs ++ [(⟨s, 1, 1, 9, b4 a, some ⟨wr.heap.size, 0, none⟩, 4⟩ : Rc)]).length = k + 1) := by
        show _ = _
        rw [List.length_append, HL.out]; rfl
      have KYN : Hid ((rs ++ [(⟨s, 1, 1, 9, b4 a, some ⟨wr.heap.size, 0, none⟩, 4⟩ : Rc)]).map Rc.key = ((addrs.take (k + 1)).map (recT s 9)).map Rc.key) := by
        show _ = _
        rw [List.map_append, HKY.out, List.take_add_one, ha, Option.toList_some, List.map_append, List.map_append]; rfl
      clear own9 gr9 at9 bel9 c9 f9 b9 kb1 ob kt OW2 hz9 hz1w
      go_wp2
      go_roundw
      case rel => exact ⟨k + 1, A9, k9, _, by go_num, by omega, FN.out, LN.out, KYN.out, RN.out, KN.out, MN.out⟩
      case measure => simp [intOf]; omega
    · obtain rfl : k = addrs.length := by omega
      have hky := HKY.out
      rw [List.take_length] at hky
      have HGA : Hid (∀ r ∈ rs, GoodA r) := fun r hr => by
        have h1 : r.key ∈ (addrs.map (recT s 9)).map Rc.key := by rw [← hky]; exact List.mem_map.2 ⟨r, hr, rfl⟩
        obtain ⟨y, hy, he⟩ := List.mem_map.1 h1
        obtain ⟨a, _, rfl⟩ := List.mem_map.1 hy
        obtain ⟨nm, t, c, u, da, _, _⟩ := r
        unfold Rc.key recT at he
        simp only [Prod.mk.injEq] at he
        obtain ⟨rfl, rfl, rfl, rfl, rfl⟩ := he
        exact ⟨rfl, ⟨by show (0 : Int) ≤ 9; omega, by show (9 : Int) ≤ 2147483647; omega⟩, HS.out, .inl ⟨rfl, rfl⟩⟩
      have hl64 : rs.length ≤ 64 := by have h := HL.out; omega
      have hHKY := Lib.hid hky
      clear hky
      rename_i aK
      have HKK := Lib.hid aK
      clear aK
      go_wp2
      refine HKK.out _ _ ?_
      by_cases w1 : wg = 1
      · subst w1
        exact tellsDrop1 w wr _ rb mb g { z with sent := z.sent + 1, qs := z.qs ++ [(g, ⟨s, s, 0, id, 0, 1, 0 + 50⟩)], QA := QA, qc := qc } s id ⟨s, 1, 1, 0, [], none, 0⟩ Q2 n2 rs A m AA addrs.length ac HF.out rfl rfl rfl rfl HGA.out hl64 HRr.out HMr.out (by show z.qs ++ _ = _; rw [HQS.out]; rfl) HPO.out HSV.out HID.out.1 HID.out.2 HS.out hss (by omega) hpos _ _ _ _ _ _ _ _ _ _ _ _ _ _ _ _ _ _ _ _ _ _ _ _ _ _ _ _ _ _ _ _ _ _ _ _ _ _ _ _ _ _ _ _ _ _ _ _ _ _ _ _ _ _ _ _ _ _ _ _ _ _ _ _ _ _ _ _ _ _ _ _ _ _ _ _ _ _ _ _ _ _ _ _ _ _ _ _ _ _ _ _ _ _ _ _ _ _ _ _ _ _ _ _ _ _ _ _ _ _ _ _ _ _ _ _ _ _ _ _ _ _ _ _ _ _ _ _ _ _ _ _ _ _ _ _ _ _ _ _ _ _ _ _ _ _ _ _ _ _ _ _ _ _ _ _ _ _ _ _ _ _ _ _ _ _ _ _ _ _ _ _ _ _ _ _ _ _ _ _ _ _ _ _ _ _ _ _ _ _ _ _ _ _ _ _ _ _ _ _ _ _ _ _ _ _ _ _ _ _ _ _ _ _ _ _ _ _ _ _ _ _ _ _ _ _ _ _ _ _ _ _ _ _ _ _ _ _ _ _ _ _ _
      by_cases w2 : wg = 2
      · subst w2
        exact tellsDrop2 w wr _ rb mb g { z with sent := z.sent + 1, qs := z.qs ++ [(g, ⟨s, s, 0, id, 0, 1, 0 + 50⟩)], QA := QA, qc := qc } s id ⟨s, 1, 1, 0, [], none, 0⟩ Q2 n2 rs A m AA addrs.length ac HF.out rfl rfl rfl rfl HGA.out hl64 HRr.out HMr.out (by show z.qs ++ _ = _; rw [HQS.out]; rfl) HPO.out HSV.out HID.out.1 HID.out.2 HS.out hss (by omega) hpos _ _ _ _ _ _ _ _ _ _ _ _ _ _ _ _ _ _ _ _ _ _ _ _ _ _ _ _ _ _ _ _ _ _ _ _ _ _ _ _ _ _ _ _ _ _ _ _ _ _ _ _ _ _ _ _ _ _ _ _ _ _ _ _ _ _ _ _ _ _ _ _ _ _ _ _ _ _ _ _ _ _ _ _ _ _ _ _ _ _ _ _ _ _ _ _ _ _ _ _ _ _ _ _ _ _ _ _ _ _ _ _ _ _ _ _ _ _ _ _ _ _ _ _ _ _ _ _ _ _ _ _ _ _ _ _ _ _ _ _ _ _ _ _ _ _ _ _ _ _ _ _ _ _ _ _ _ _ _ _ _ _ _ _ _ _ _ _ _ _ _ _ _ _ _ _ _ _ _ _ _ _ _ _ _ _ _ _ _ _ _ _ _ _ _ _ _ _ _ _ _ _ _ _ _ _ _ _ _ _ _ _ _ _ _ _ _ _ _ _ _ _ _ _ _ _ _ _ _ _ _ _ _ _ _ _ _ _ _ _ _ _ _
      by_cases w3 : wg = 3
      · subst w3
        exact tellsDrop3 w wr _ rb mb g { z with sent := z.sent + 1, qs := z.qs ++ [(g, ⟨s, s, 0, id, 0, 1, 0 + 50⟩)], QA := QA, qc := qc } s id ⟨s, 1, 1, 0, [], none, 0⟩ Q2 n2 rs A m AA addrs.length ac HF.out rfl rfl rfl rfl HGA.out hl64 HRr.out HMr.out (by show z.qs ++ _ = _; rw [HQS.out]; rfl) HPO.out HSV.out HID.out.1 HID.out.2 HS.out hss (by omega) hpos _ _ _ _ _ _ _ _ _ _ _ _ _ _ _ _ _ _ _ _ _ _ _ _ _ _ _ _ _ _ _ _ _ _ _ _ _ _ _ _ _ _ _ _ _ _ _ _ _ _ _ _ _ _ _ _ _ _ _ _ _ _ _ _ _ _ _ _ _ _ _ _ _ _ _ _ _ _ _ _ _ _ _ _ _ _ _ _ _ _ _ _ _ _ _ _ _ _ _ _ _ _ _ _ _ _ _ _ _ _ _ _ _ _ _ _ _ _ _ _ _ _ _ _ _ _ _ _ _ _ _ _ _ _ _ _ _ _ _ _ _ _ _ _ _ _ _ _ _ _ _ _ _ _ _ _ _ _ _ _ _ _ _ _ _ _ _ _ _ _ _ _ _ _ _ _ _ _ _ _ _ _ _ _ _ _ _ _ _ _ _ _ _ _ _ _ _ _ _ _ _ _ _ _ _ _ _ _ _ _ _ _ _ _ _ _ _ _ _ _ _ _ _ _ _ _ _ _ _ _ _ _ _ _ _ _ _ _ _ _ _ _ _
      by_cases w4 : wg = 4
      · subst w4
        exact tellsDrop4 w wr _ rb mb g { z with sent := z.sent + 1, qs := z.qs ++ [(g, ⟨s, s, 0, id, 0, 1, 0 + 50⟩)], QA := QA, qc := qc } s id ⟨s, 1, 1, 0, [], none, 0⟩ Q2 n2 rs A m AA addrs.length ac HF.out rfl rfl rfl rfl HGA.out hl64 HRr.out HMr.out (by show z.qs ++ _ = _; rw [HQS.out]; rfl) HPO.out HSV.out HID.out.1 HID.out.2 HS.out hss (by omega) hpos _ _ _ _ _ _ _ _ _ _ _ _ _ _ _ _ _ _ _ _ _ _ _ _ _ _ _ _ _ _ _ _ _ _ _ _ _ _ _ _ _ _ _ _ _ _ _ _ _ _ _ _ _ _ _ _ _ _ _ _ _ _ _ _ _ _ _ _ _ _ _ _ _ _ _ _ _ _ _ _ _ _ _ _ _ _ _ _ _ _ _ _ _ _ _ _ _ _ _ _ _ _ _ _ _ _ _ _ _ _ _ _ _ _ _ _ _ _ _ _ _ _ _ _ _ _ _ _ _ _ _ _ _ _ _ _ _ _ _ _ _ _ _ _ _ _ _ _ _ _ _ _ _ _ _ _ _ _ _ _ _ _ _ _ _ _ _ _ _ _ _ _ _ _ _ _ _ _ _ _ _ _ _ _ _ _ _ _ _ _ _ _ _ _ _ _ _ _ _ _ _ _ _ _ _ _ _ _ _ _ _ _ _ _ _ _ _ _ _ _ _ _ _ _ _ _ _ _ _ _ _ _ _ _ _ _ _ _ _ _ _ _ _
      by_cases w5 : wg = 5
      · subst w5
        exact tellsDrop5 w wr _ rb mb g { z with sent := z.sent + 1, qs := z.qs ++ [(g, ⟨s, s, 0, id, 0, 1, 0 + 50⟩)], QA := QA, qc := qc } s id ⟨s, 1, 1, 0, [], none, 0⟩ Q2 n2 rs A m AA addrs.length ac HF.out rfl rfl rfl rfl HGA.out hl64 HRr.out HMr.out (by show z.qs ++ _ = _; rw [HQS.out]; rfl) HPO.out HSV.out HID.out.1 HID.out.2 HS.out hss (by omega) hpos _ _ _ _ _ _ _ _ _ _ _ _ _ _ _ _ _ _ _ _ _ _ _ _ _ _ _ _ _ _ _ _ _ _ _ _ _ _ _ _ _ _ _ _ _ _ _ _ _ _ _ _ _ _ _ _ _ _ _ _ _ _ _ _ _ _ _ _ _ _ _ _ _ _ _ _ _ _ _ _ _ _ _ _ _ _ _ _ _ _ _ _ _ _ _ _ _ _ _ _ _ _ _ _ _ _ _ _ _ _ _ _ _ _ _ _ _ _ _ _ _ _ _ _ _ _ _ _ _ _ _ _ _ _ _ _ _ _ _ _ _ _ _ _ _ _ _ _ _ _ _ _ _ _ _ _ _ _ _ _ _ _ _ _ _ _ _ _ _ _ _ _ _ _ _ _ _ _ _ _ _ _ _ _ _ _ _ _ _ _ _ _ _ _ _ _ _ _ _ _ _ _ _ _ _ _ _ _ _ _ _ _ _ _ _ _ _ _ _ _ _ _ _ _ _ _ _ _ _ _ _ _ _ _ _ _ _ _ _ _ _ _ _
      exact tellsKeep w wr _ rb mb g { z with sent := z.sent + 1, qs := z.qs ++ [(g, ⟨s, s, 0, id, 0, 1, 0 + 50⟩)], QA := QA, qc := qc } s id ⟨s, 1, 1, 0, [], none, 0⟩ Q2 n2 rs A m AA ac addrs wg HF.out rfl rfl rfl rfl HGA.out hl64 HRr.out HMr.out (by show z.qs ++ _ = _; rw [HQS.out]; rfl) HPO.out HSV.out HID.out.1 HID.out.2 HS.out hss hs0 (by omega) hpos (by omega) HKr.out HAG.out ⟨by show 0 ≤ z.sent + 1; rw [HSE.out]; decide, by show z.sent + 1 ≤ 100; rw [HSE.out]; decide⟩ hHKY.out ha1 ha2 HAR.out HRD.out _ _ _ _ _ _ _ _ _ _ _ _ _ _ _ _ _ _ _ _ _ _ _ _ _ _ _ _ _ _ _ _ _ _ _ _ _ _ _ _ _ _ _ _ _ _ _ _ _ _ _ _ _ _ _ _ _ _ _ _ _ _ _ _ _ _ _ _ _ _ _ _ _ _ _ _ _ _ _ _ _ _ _ _ _ _ _ _ _ _ _ _ _ _ _ _ _ _ _ _ _ _ _ _ _ _ _ _ _ _ _ _ _ _ _ _ _ _ _ _ _ _ _ _ _ _ _ _ _ _ _ _ _ _ _ _ _ _ _ _ _ _ _ _ _ _ _ _ _ _ _ _ _ _ _ _ _ _ _ _ _ _ _ _ _ _ _ _ _ _ _ _ _ _ _ _ _ _ _ _ _ _ _ _ _ _ _ _ _ _ _ _ _ _ _ _ _ _ _ _ _ _ _ _ _ _ _ _ _ _ _ _ _ _ _ _ _ _ _ _ _ _ _ _ _ _ _ _ _ _ _ _ _ _ _ _ _ _ _ _ _ _ _
end
end Go.Proofs.YtpfkmmmlocmakaaDoor
