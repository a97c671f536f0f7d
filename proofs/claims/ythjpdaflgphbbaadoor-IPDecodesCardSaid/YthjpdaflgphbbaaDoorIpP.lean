/-
  IP: the address that a text says, in the program and in the reference.
-/
import Derived.Test.YthjpdaflgphbbaaDoorIpT
import Derived.Test.YthjpdaflgphbbaaDoorOctRdB
set_option linter.unusedVariables false
namespace Go.Proofs.YthjpdaflgphbbaaDoor
open Go.RowKit

def parA (o : Option Nat) : Nat := o.getD 0
def parE (o : Option Nat) : Int := if o.isSome then 0 else 3
def ParR (o : Option Nat) : Ending := .returned (.tuple #[.int .u32 (parA o), .int .i64 (parE o)])
theorem ParR_none : ParR none = .returned (.tuple #[.int .u32 0, .int .i64 3]) := rfl
theorem ParR_some (a : Nat) : ParR (some a) = .returned (.tuple #[.int .u32 a, .int .i64 0]) := rfl

theorem split5 (s : ByteArray) : ((spl s.data.toList).length = 4 ∧ (Lib.splitB ⟨#[46]⟩ 0 (min 5 (s.size + 1) - 1) s).map (·.data.toList) = spl s.data.toList) ∨
    ((spl s.data.toList).length ≠ 4 ∧ (Lib.splitB ⟨#[46]⟩ 0 (min 5 (s.size + 1) - 1) s).length ≠ 4) := by
  have h1 := Lib.splitB_data ⟨#[46]⟩ 0 (min 5 (s.size + 1) - 1) s
  have e : (⟨#[46]⟩ : ByteArray).data.toList = [46] := rfl
  rw [e] at h1
  obtain ⟨i1, i2⟩ := splitK_gen s.data.toList (min 5 (s.size + 1) - 1)
  have hl := spl_len s.data.toList
  have hz : s.data.toList.length = s.size := Array.length_toList
  have hc : s.data.toList.count 46 ≤ s.size := by rw [← hz]; exact List.count_le_length
  by_cases h : s.data.toList.count 46 ≤ min 5 (s.size + 1) - 1
  · rw [i1 h] at h1
    by_cases h4 : (spl s.data.toList).length = 4
    · exact .inl ⟨h4, h1⟩
    · refine .inr ⟨h4, ?_⟩
      rw [← h1, List.length_map] at h4
      exact h4
  · refine .inr ⟨by omega, ?_⟩
    have := i2 (by omega)
    rw [← h1, List.length_map] at this
    omega
theorem cellsOf_at (xs : List ByteArray) (N : Nat) (j : Nat) (h : j < xs.length) : (Lib.cellsOf xs N)[j]? = some (.string xs[j]) := by
  unfold Lib.cellsOf
  rw [List.getElem?_toArray, List.getElem?_append_left (by simpa using h)]
  simp [h]
theorem splitN5 (s : ByteArray) (w : World) (hE : Env w) (hs : s.size ≤ 4000) :
    Calls Tryd.prog 40 #[.string s, .string ⟨#[46]⟩, .int .i64 5] w fun e w' => ∃ (g c : Nat) (xs : List ByteArray), e = .returned (.slice (some ⟨g, 0, none⟩) xs.length c) ∧ Below w.heap.size w w' ∧ g < w'.heap.size ∧ xs.length ≤ c ∧
      (∀ j, (h : j < xs.length) → w'.cell? ⟨g, j, none⟩ = some (.string xs[j])) ∧ Hid (((spl s.data.toList).length = 4 ∧ xs.map (·.data.toList) = spl s.data.toList) ∨ ((spl s.data.toList).length ≠ 4 ∧ xs.length ≠ 4)) := by
  obtain ⟨m, hm⟩ := hE.mx
  refine (Tryd.strings_SplitN s ⟨#[46]⟩ 5 m w (by omega) hm (by decide) (by decide) (by decide)).mono ?_
  rintro e w' ⟨rfl, rfl⟩
  have hle := Lib.splitB_length_le ⟨#[46]⟩ 0 (min 5 (s.size + 1) - 1) s
  refine ⟨w.heap.size, min 5 (s.size + 1), _, rfl, al (rf w) _, (Blk.new w 9 _).lt, by omega, fun j h => ?_, split5 s⟩
  rw [(Blk.new w 9 _).cell]
  exact cellsOf_at _ _ _ h
theorem pf_bad {h : List UInt8} (t : List (List UInt8)) (a : Nat) (hp : pc h = none) : pf (h :: t) a = none := by rw [pf, hp]
theorem pf_good {h : List UInt8} (t : List (List UInt8)) (a v : Nat) (hp : pc h = some v) : pf (h :: t) a = pf t (a * 256 + v) := by rw [pf, hp]
theorem pc_no {x : List UInt8} (h : ∀ v, Lib.atoiAll x ≠ .ok v) : pc x = none := by
  unfold pc
  split
  · rename_i v hv; exact absurd hv (h v)
  · rfl
theorem pc_ok {x : List UInt8} {v : Int} (h : Lib.atoiAll x = .ok v) : pc x = if 0 ≤ v ∧ v ≤ 255 ∧ Lib.decDigits v.toNat = x then some v.toNat else none := by
  unfold pc; rw [h]
theorem spl_le : ∀ (s : List UInt8), ∀ x ∈ spl s, x.length ≤ s.length
  | [], x, hx => by simp [spl] at hx; subst hx; simp
  | c :: r, x, hx => by
    by_cases hc : c = 46
    · subst hc
      rw [spl_dot] at hx
      rcases List.mem_cons.1 hx with rfl | h
      · simp
      · have := spl_le r x h; simp; omega
    · cases hr : spl r with
      | nil => exact absurd hr (spl_ne r)
      | cons h t =>
        rw [spl_char c r h t hc hr] at hx
        rcases List.mem_cons.1 hx with rfl | h2
        · have := spl_le r h (by rw [hr]; exact List.mem_cons_self); simp; omega
        · have := spl_le r x (by rw [hr]; exact List.mem_cons_of_mem _ h2); simp; omega
set_option maxHeartbeats 1600000 in
theorem parseC (s : ByteArray) (w : World) (hE : Env w) (hs : s.size ≤ 4000) :
    Calls Tryd.prog 19 #[.string s] w fun e w' => e = ParR (parseP s.data.toList) ∧ Below w.heap.size w w' := by
  have HS := Lib.hid (splitN5 s w hE hs)
  go_enter Tryd.func19, Tryd.ntmps19
  go_wp2_with fail
  refine HS.out.mono ?_
  rintro e w1 ⟨g, c, xs, rfl, b1, hg, hxc, hcell, hcase⟩
  clear HS
  by_cases hx4 : xs.length = 4
  · have hq : ((xs.length : Int) != 4) = false := by rw [bne_eq_false_iff_eq]; omega
    have HC := Lib.hid hcell; clear hcell
    have HX4 := Lib.hid hx4; clear hx4
    go_wp2
    go_loopw [5, 17] (fun a i wr => ∃ k acc : Nat, k ≤ 4 ∧ a = .int .u32 acc ∧ i = .int .i64 k ∧ Hid (acc < 256 ^ k) ∧ Hid (pf (spl s.data.toList) 0 = pf ((spl s.data.toList).drop k) acc) ∧ Below w1.heap.size w1 wr) (fun _ i _ => 4 - (intOf i).toNat)
    case atStart => exact ⟨0, 0, by omega, rfl, rfl, Lib.hid (by decide), rfl, rf w1⟩
    case round =>
      obtain ⟨k, acc, hk, rfl, rfl, hacc, hpf, hb⟩ := hrel
      have hz := hb.size
      by_cases hlt : k < 4
      · have hk' : k < xs.length := by have := HX4.out; omega
        have hc := (hb.cell (p := ⟨g, k, none⟩) hg).trans (HC.out k hk')
        have hkl : k < (spl s.data.toList).length := by
          rcases hcase.out with ⟨h1, h2⟩ | ⟨h1, h2⟩
          · omega
          · exact absurd HX4.out h2
        have hxl : xs[k].data.toList = (spl s.data.toList)[k] := by
          rcases hcase.out with ⟨h1, h2⟩ | ⟨h1, h2⟩
          · have : (xs.map (·.data.toList))[k]? = (spl s.data.toList)[k]? := by rw [h2]
            rw [List.getElem?_map, List.getElem?_eq_getElem hk', List.getElem?_eq_getElem hkl] at this
            simpa using this
          · exact absurd HX4.out h2
        have hdr : (spl s.data.toList).drop k = (spl s.data.toList)[k] :: (spl s.data.toList).drop (k + 1) := List.drop_eq_getElem_cons hkl
        have hxz : xs[k].size ≤ 4000 := by
          have h1 : xs[k].data.toList.length = xs[k].size := Array.length_toList
          have h2 := spl_le s.data.toList _ (List.getElem_mem hkl)
          have h3 : s.data.toList.length = s.size := Array.length_toList
          rw [hxl] at h1
          omega
        generalize hx : xs[k] = x at hc hxl hxz
        have k0 : (0 : Int) ≤ k := by omega
        have k1 : (k : Int) < 4 := by omega
        have k2 : (k : Int) < xs.length := by omega
        have HXL := Lib.hid hxl
        have HDR := Lib.hid hdr
        have HE := Lib.hid ((hE.nx b1).nx hb)
        have HAT := Lib.hid (atoiC x wr HE.out (by omega))
        clear hx hxl hdr hE
        go_wp2_with fail
        refine HAT.out.mono ?_
        rintro e w2 ⟨hb2, ⟨v, hv, rfl⟩ | ⟨hv, v, t, p, rfl⟩⟩
        · have hpc := pc_ok hv
          have HPC := Lib.hid hpc; clear hpc hv
          have none_of : pc x.data.toList = none → parseP s.data.toList = none := fun h => by
            unfold parseP
            rw [if_pos (by rcases hcase.out with ⟨h1, h2⟩ | ⟨h1, h2⟩; exact h1; exact absurd HX4.out h2), hpf.out, HDR.out]
            refine pf_bad _ _ ?_
            rw [← HXL.out]; exact h
          have HNO := Lib.hid none_of; clear none_of
          by_cases h0 : v < 0
          · have HN := Lib.hid (HNO.out (by rw [HPC.out, if_neg (by omega)]))
            go_wp2
            refine bodyPost_ret (results_tmp2 rfl _ _ _) rfl ?_
            rw [HN.out]
            exact ⟨rfl, nx b1 (nx hb hb2)⟩
          · by_cases h255 : 255 < v
            · have HN := Lib.hid (HNO.out (by rw [HPC.out, if_neg (by omega)]))
              go_wp2
              refine bodyPost_ret (results_tmp2 rfl _ _ _) rfl ?_
              rw [HN.out]
              exact ⟨rfl, nx b1 (nx hb hb2)⟩
            · go_wp2_with fail
              refine (itoaC v w2 (HE.out.nx hb2) (by omega) (by omega)).mono ?_
              rintro e w3 ⟨rfl, hb3⟩
              generalize hit : itx v.toNat = it
              have HIT := Lib.hid hit; clear hit
              by_cases heq : it = x
              · have hp : pc x.data.toList = some v.toNat := by
                  rw [HPC.out, if_pos ⟨by omega, by omega, by rw [← heq, ← HIT.out]; rfl⟩]
                have hpn : pf (spl s.data.toList) 0 = pf ((spl s.data.toList).drop (k + 1)) (acc * 256 + v.toNat) := by
                  rw [hpf.out, HDR.out]
                  refine pf_good _ _ _ ?_
                  rw [← HXL.out]; exact hp
                have ha4 : acc < 16777216 := by
                  have h1 := hacc.out
                  have h2 : 256 ^ k ≤ 256 ^ 3 := Nat.pow_le_pow_right (by decide) (by omega)
                  omega
                have ha5 : acc * 256 + v.toNat < 256 ^ (k + 1) := by
                  have h1 := hacc.out
                  rw [Nat.pow_succ]
                  omega
                have o1 := or_byte acc v (by omega) (by omega) (by omega) (by omega)
                have o2 : IntKind.u32.wrap v = v := by rw [IntKind.wrap_u32]; omega
                have o3 : (acc : Int) * 256 % 4294967296 = acc * 256 := by omega
                have hbq : (it.toList == x.toList) = true := by rw [heq]; simp
                have HPN := Lib.hid hpn
                have HA5 := Lib.hid ha5
                clear hp hpn ha4 ha5 heq
                go_wp2
                go_roundw
                case rel =>
                  refine ⟨k + 1, acc * 256 + v.toNat, by omega, ?_, by go_num, HA5.out, HPN.out, nx hb (nx hb2 hb3)⟩
                  congr 1; omega
                case measure => simp [intOf]; omega
              · have HN := Lib.hid (HNO.out (by
                  rw [HPC.out, if_neg]
                  rintro ⟨_, _, h⟩
                  apply heq
                  rw [← HIT.out]
                  apply ByteArray.ext
                  apply Array.ext'
                  simpa [itx] using h))
                have hbq : (it.toList == x.toList) = false := by
                  rw [beq_eq_false_iff_ne]
                  intro h
                  apply heq
                  rw [ByteArray.toList_eq, ByteArray.toList_eq] at h
                  exact ByteArray.ext (Array.ext' h)
                clear heq
                go_wp2
                refine bodyPost_ret (results_tmp2 rfl _ _ _) rfl ?_
                rw [HN.out]
                exact ⟨rfl, nx b1 (nx hb (nx hb2 hb3))⟩
        · have hn : parseP s.data.toList = none := by
            unfold parseP
            rw [if_pos (by rcases hcase.out with ⟨h1, h2⟩ | ⟨h1, h2⟩; exact h1; exact absurd HX4.out h2), hpf.out, HDR.out]
            refine pf_bad _ _ (pc_no ?_)
            rw [← HXL.out]; exact hv
          have HN := Lib.hid hn; clear hn
          go_wp2
          refine bodyPost_ret (results_tmp2 rfl _ _ _) rfl ?_
          rw [HN.out]
          exact ⟨rfl, nx b1 (nx hb hb2)⟩
      · obtain rfl : k = 4 := by omega
        have hn : parseP s.data.toList = some acc := by
          have h4 : (spl s.data.toList).length = 4 := by rcases hcase.out with ⟨h1, h2⟩ | ⟨h1, h2⟩; exact h1; exact absurd HX4.out h2
          unfold parseP
          rw [if_pos h4, hpf.out, List.drop_eq_nil_of_le (by omega)]; rfl
        have HN := Lib.hid hn; clear hn
        have k1 : ¬ (4 : Int) < xs.length := by have := HX4.out; omega
        go_wp2
        refine bodyPost_ret (results_tmp2 rfl _ _ _) rfl ?_
        rw [HN.out]
        exact ⟨rfl, nx b1 hb⟩
  · have hq : ((xs.length : Int) != 4) = true := by rw [bne_iff_ne]; omega
    have hn : parseP s.data.toList = none := by
      unfold parseP
      rcases hcase.out with ⟨h1, h2⟩ | ⟨h1, h2⟩
      · have := congrArg List.length h2
        rw [List.length_map] at this
        omega
      · rw [if_neg h1]
    have HN := Lib.hid hn; clear hn hcell
    go_wp2
    refine bodyPost_ret (results_tmp2 rfl _ _ _) rfl ?_
    rw [HN.out]
    exact ⟨rfl, b1⟩

-- the reference
def RSt (l : List UInt8) (q n v any a : Nat) : Prop :=
  (q ≤ l.length ∧ n ≤ 4 ∧ v ≤ 255 ∧ any ≤ q ∧ a < 256 ^ n ∧ refP n v any a (l.drop q) = parseP l) ∨ (q = l.length + 1 ∧ n ≤ 4 ∧ any = 0 ∧ a < 256 ^ n ∧ (if n = 4 then some a else none) = parseP l)
set_option maxHeartbeats 3200000 in
theorem rparseC (s : ByteArray) (w : World) (hs : s.size ≤ 4000) :
    Calls Tryd.prog 21 #[.string s] w fun e w' => e = ParR (parseP s.data.toList) ∧ w' = w := by
  obtain ⟨P, hP⟩ : ∃ P, P = parseP s.data.toList := ⟨_, rfl⟩
  have hz : s.data.toList.length = s.size := Array.length_toList
  have HZ := Lib.hid hz; clear hz
  rw [← hP]
  have HP := Lib.hid hP; clear hP
  go_enter Tryd.func21, Tryd.ntmps21
  go_wp2
  go_loopw [4, 5, 6, 7, 8] (fun n v any a q wr => ∃ n' v' any' a' q' : Nat, n = .int .i64 n' ∧ v = .int .i64 v' ∧ any = .int .i64 any' ∧ a = .int .u32 a' ∧ q = .int .i64 q' ∧ wr = w ∧ Hid (RSt s.data.toList q' n' v' any' a')) (fun _ _ _ _ q _ => s.size + 1 - (intOf q).toNat)
  case atStart => exact ⟨0, 0, 0, 0, 0, rfl, rfl, rfl, rfl, rfl, rfl, .inl ⟨by omega, by omega, by omega, by omega, by decide, refP_parseP _⟩⟩
  case round =>
    obtain ⟨n, v, any, a, q, rfl, rfl, rfl, rfl, rfl, rfl, hst⟩ := hrel
    rcases hst.out with ⟨h1, h2, h3, h4, h5, h6⟩ | ⟨h1, h2, h3, h4, h5⟩
    · by_cases hq : q < s.size
      · have hdr : s.data.toList.drop q = s[q] :: s.data.toList.drop (q + 1) := by
          rw [List.drop_eq_getElem_cons (by rw [HZ.out]; exact hq)]; rfl
        have b0 := s[q].toNat_lt
        have i0 : (0 : Int) ≤ q := by omega
        have i1 : (q : Int) < s.size := by omega
        have i2 : (q : Int) ≤ s.size := by omega
        have i3 : ((q : Int) == (s.size : Int)) = false := by rw [beq_eq_false_iff_ne]; omega
        have hrf : refP n v any a (s[q] :: s.data.toList.drop (q + 1)) = P := by rw [← hdr, h6, HP.out]
        have HRF := Lib.hid hrf
        clear hdr hrf h6 hst
        by_cases hd : s[q] = 46
        · have y0 : ((s[q].toNat : Int) == 46) = true := by rw [hd]; rfl
          have f0 := HRF.out
          rw [refP, if_pos hd] at f0
          by_cases ha : any = 0
          · have HN := Lib.hid (show P = none by rw [← f0, if_pos (.inl ha)])
            subst ha
            clear f0 hd
            go_wp2
            refine bodyPost_ret (results_tmp2 rfl _ _ _) rfl ?_
            rw [HN.out]
            exact ⟨rfl, rfl⟩
          · have y1 : ((any : Int) == 0) = false := by rw [beq_eq_false_iff_ne]; omega
            by_cases hn : n = 4
            · have HN := Lib.hid (show P = none by rw [← f0, if_pos (.inr hn)])
              subst hn
              clear f0 hd
              go_wp2
              refine bodyPost_ret (results_tmp2 rfl _ _ _) rfl ?_
              rw [HN.out]
              exact ⟨rfl, rfl⟩
            · have y2 : ((n : Int) == 4) = false := by rw [beq_eq_false_iff_ne]; omega
              have hp4 : 256 ^ n ≤ 256 ^ 3 := Nat.pow_le_pow_right (by decide) (by omega)
              have ha4 : a < 16777216 := by omega
              have o1 := or_byte a v (by omega) (by omega) (by omega) (by omega)
              have o2 : IntKind.u32.wrap (v : Int) = v := by rw [IntKind.wrap_u32]; omega
              have o3 : (a : Int) * 256 % 4294967296 = a * 256 := by omega
              have HF : Hid (RSt s.data.toList (q + 1) (n + 1) 0 0 (a * 256 + v)) := .inl ⟨by have := HZ.out; omega, by omega, by omega, by omega, by rw [Nat.pow_succ]; omega, by rw [← HP.out, ← f0, if_neg (by omega)]⟩
              clear f0 hd hp4 ha4 h5
              go_wp2
              go_roundw
              case rel => exact ⟨n + 1, 0, 0, a * 256 + v, q + 1, by go_num, rfl, rfl, by congr 1, by go_num, by first | trivial | rfl, HF⟩
              case measure => simp [intOf]; omega
        · have y0 : ((s[q].toNat : Int) == 46) = false := by
            rw [beq_eq_false_iff_ne]; intro e; exact hd (UInt8.toNat_inj.1 (by show s[q].toNat = 46; omega))
          have f0 := HRF.out
          rw [refP, if_neg hd] at f0
          by_cases hlo : s[q].toNat < 48
          · have hi : isD s[q] = false := by unfold isD; simp; omega
            have HN := Lib.hid (show P = none by rw [← f0, if_pos (.inl hi)])
            have y1 : (s[q].toNat : Int) < 48 := by omega
            clear f0 hd hi
            go_wp2
            refine bodyPost_ret (results_tmp2 rfl _ _ _) rfl ?_
            rw [HN.out]
            exact ⟨rfl, rfl⟩
          · have y1 : ¬ (s[q].toNat : Int) < 48 := by omega
            by_cases hhi : 57 < s[q].toNat
            · have hi : isD s[q] = false := by unfold isD; simp; omega
              have HN := Lib.hid (show P = none by rw [← f0, if_pos (.inl hi)])
              have y2 : (57 : Int) < s[q].toNat := by omega
              clear f0 hd hi
              go_wp2
              refine bodyPost_ret (results_tmp2 rfl _ _ _) rfl ?_
              rw [HN.out]
              exact ⟨rfl, rfl⟩
            · have y2 : ¬ (57 : Int) < s[q].toNat := by omega
              have hi : isD s[q] = true := by unfold isD; simp; omega
              by_cases hz0 : 0 < any ∧ v = 0
              · have HN := Lib.hid (show P = none by rw [← f0, if_pos (.inr hz0)])
                obtain ⟨hz1, rfl⟩ := hz0
                have y3 : (0 : Int) < any := by omega
                clear f0 hd hi
                go_wp2
                refine bodyPost_ret (results_tmp2 rfl _ _ _) rfl ?_
                rw [HN.out]
                exact ⟨rfl, rfl⟩
              · have f1 := f0
                rw [if_neg (by rw [hi]; simpa using hz0)] at f1
                have f2 := f1
                clear f0 hd hi f1
                by_cases hv : 255 < v * 10 + s[q].toNat - 48
                · have HN := Lib.hid (show P = none by rw [← f2, if_pos hv])
                  have y5 : (255 : Int) < v * 10 + s[q].toNat - 48 := by omega
                  clear f2
                  by_cases han : 0 < any
                  · have y3 : (0 : Int) < any := by omega
                    have y4 : ((v : Int) == 0) = false := by rw [beq_eq_false_iff_ne]; omega
                    go_wp2
                    refine bodyPost_ret (results_tmp2 rfl _ _ _) rfl ?_
                    rw [HN.out]
                    exact ⟨rfl, rfl⟩
                  · have y3 : ¬ (0 : Int) < any := by omega
                    go_wp2
                    refine bodyPost_ret (results_tmp2 rfl _ _ _) rfl ?_
                    rw [HN.out]
                    exact ⟨rfl, rfl⟩
                · have HF : Hid (RSt s.data.toList (q + 1) n (v * 10 + s[q].toNat - 48) (any + 1) a) := .inl ⟨by have := HZ.out; omega, by omega, by omega, by omega, h5, by rw [← HP.out, ← f2, if_neg hv]⟩
                  have y5 : ¬ (255 : Int) < v * 10 + s[q].toNat - 48 := by omega
                  clear f2 h5
                  by_cases han : 0 < any
                  · have y3 : (0 : Int) < any := by omega
                    have y4 : ((v : Int) == 0) = false := by rw [beq_eq_false_iff_ne]; omega
                    go_wp2
                    go_roundw
                    case rel => exact ⟨n, v * 10 + s[q].toNat - 48, any + 1, a, q + 1, rfl, by congr 1; omega, by go_num, rfl, by go_num, by first | trivial | rfl, HF⟩
                    case measure => simp [intOf]; omega
                  · have y3 : ¬ (0 : Int) < any := by omega
                    go_wp2
                    go_roundw
                    case rel => exact ⟨n, v * 10 + s[q].toNat - 48, any + 1, a, q + 1, rfl, by congr 1; omega, by go_num, rfl, by go_num, by first | trivial | rfl, HF⟩
                    case measure => simp [intOf]; omega
      · obtain rfl : q = s.size := by have := HZ.out; omega
        have f0 : refP n v any a [] = P := by rw [HP.out, ← h6, List.drop_eq_nil_of_le (by have := HZ.out; omega)]
        rw [refP] at f0
        clear h6 hst
        have i2 : (s.size : Int) ≤ s.size := by omega
        have i3 : ((s.size : Int) == (s.size : Int)) = true := by simp
        by_cases ha : any = 0
        · have HN := Lib.hid (show P = none by rw [← f0, if_pos (.inl ha)])
          subst ha
          clear f0
          go_wp2
          refine bodyPost_ret (results_tmp2 rfl _ _ _) rfl ?_
          rw [HN.out]
          exact ⟨rfl, rfl⟩
        · have y1 : ((any : Int) == 0) = false := by rw [beq_eq_false_iff_ne]; omega
          by_cases hn : n = 4
          · have HN := Lib.hid (show P = none by rw [← f0, if_pos (.inr hn)])
            subst hn
            clear f0
            go_wp2
            refine bodyPost_ret (results_tmp2 rfl _ _ _) rfl ?_
            rw [HN.out]
            exact ⟨rfl, rfl⟩
          · have y2 : ((n : Int) == 4) = false := by rw [beq_eq_false_iff_ne]; omega
            have hp4 : 256 ^ n ≤ 256 ^ 3 := Nat.pow_le_pow_right (by decide) (by omega)
            have ha4 : a < 16777216 := by omega
            have o1 := or_byte a v (by omega) (by omega) (by omega) (by omega)
            have o2 : IntKind.u32.wrap (v : Int) = v := by rw [IntKind.wrap_u32]; omega
            have o3 : (a : Int) * 256 % 4294967296 = a * 256 := by omega
            have HF : Hid (RSt s.data.toList (s.size + 1) (n + 1) 0 0 (a * 256 + v)) := .inr ⟨by have := HZ.out; omega, by omega, rfl, by rw [Nat.pow_succ]; omega, by
              rw [← HP.out, ← f0]
              by_cases h3 : n = 3
              · simp [ha, h3]
              · simp [ha, hn, h3]⟩
            clear f0 hp4 ha4 h5
            go_wp2
            go_roundw
            case rel => exact ⟨n + 1, 0, 0, a * 256 + v, s.size + 1, by go_num, rfl, rfl, by congr 1, by go_num, by first | trivial | rfl, HF⟩
            case measure => simp [intOf]
    · have i2 : ¬ (q : Int) ≤ s.size := by have := HZ.out; omega
      clear hst
      by_cases hn : n = 4
      · have HN := Lib.hid (show P = some a by rw [HP.out, ← h5, if_pos hn])
        subst hn
        clear h5
        go_wp2
        refine bodyPost_ret (results_tmp2 rfl _ _ _) rfl ?_
        rw [HN.out]
        exact ⟨rfl, rfl⟩
      · have y2 : ((n : Int) != 4) = true := by rw [bne_iff_ne]; omega
        have HN := Lib.hid (show P = none by rw [HP.out, ← h5, if_neg hn])
        clear h5
        go_wp2
        refine bodyPost_ret (results_tmp2 rfl _ _ _) rfl ?_
        rw [HN.out]
        exact ⟨rfl, rfl⟩
end Go.Proofs.YthjpdaflgphbbaaDoor
