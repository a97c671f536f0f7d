/-
  Names: the reference's labels.
-/
import Derived.Test.YtlojbnnmlpfnbaaDoorNmPk
set_option linter.unusedVariables false
namespace Go.Proofs.YtlojbnnmlpfnbaaDoor
open Go.RowKit

def glue (init : List (List UInt8)) (last r : List UInt8) : List (List UInt8) := init ++ match spl r with | [] => [last] | h :: t => (last ++ h) :: t
theorem glue_start (s : List UInt8) : glue [] [] s = spl s := by
  unfold glue
  cases h : spl s with
  | nil => exact absurd h (spl_ne s)
  | cons x t => rfl
theorem glue_dot (init : List (List UInt8)) (last r : List UInt8) : glue init last (46 :: r) = glue (init ++ [last]) [] r := by
  unfold glue
  rw [spl_dot]
  cases h : spl r with
  | nil => exact absurd h (spl_ne r)
  | cons x t => simp
theorem glue_char (init : List (List UInt8)) (last r : List UInt8) (c : UInt8) (hc : c ≠ 46) : glue init last (c :: r) = glue init (last ++ [c]) r := by
  unfold glue
  cases h : spl r with
  | nil => exact absurd h (spl_ne r)
  | cons x t => rw [spl_char c r x t hc h]; simp
theorem glue_end (init : List (List UInt8)) (last : List UInt8) : glue init last [] = init ++ [last] := by simp [glue, spl]
theorem extract_one (s : ByteArray) (i : Nat) (h : i < s.size) : s.extract i (i + 1) = ⟨#[s[i]]⟩ := by
  apply bytes_ext
  have h2 : i < s.data.size := h
  simp [ByteArray.data_extract]
  rw [List.drop_eq_getElem_cons (by simpa using h2)]
  rfl
theorem str_snoc (l : List UInt8) (c : UInt8) : (⟨l.toArray⟩ : ByteArray) ++ ⟨#[c]⟩ = ⟨(l ++ [c]).toArray⟩ := bytes_app l [c]
theorem strs_set (init : List (List UInt8)) (a b : List UInt8) : (strs (init ++ [a])).set init.length (.string ⟨b.toArray⟩) = strs (init ++ [b]) := by
  unfold strs
  rw [List.map_append, List.map_append]
  rw [List.set_append_right _ _ (by simp)]
  simp
set_option maxHeartbeats 1600000 in
theorem rlabelsC (s : ByteArray) (w : World) (hs : s.size ≤ 1000000) : Calls Tryd.prog 22 #[.string s] w (LabP s.data.toList w) := by
  by_cases h0 : s.size = 0
  · have hl : s.data.toList = [] := List.eq_nil_of_length_eq_zero (by rw [str_len]; exact h0)
    have he : s.toList.isEmpty = true := by rw [ByteArray.toList_eq, hl]; rfl
    have he2 : s.toList = [] := by rw [ByteArray.toList_eq, hl]
    have HL := Lib.hid hl
    clear hl h0
    go_enter Tryd.func22, Tryd.ntmps22
    go_wp2
    refine bodyPost_ret (results_tmp2 rfl _ _ _) rfl ?_
    exact .inl ⟨by rw [HL.out]; rfl, _, rfl, by rw [HL.out]; exact World.ownsRow_nil _ _ _ _, rf w⟩
  · have hne : s.data.toList ≠ [] := by intro e; have := str_len s; rw [e] at this; simp at this; omega
    have he : s.toList.isEmpty = false := by rw [ByteArray.toList_eq]; cases hc : s.data.toList with | nil => exact absurd hc hne | cons a l => rfl
    have he2 : ¬ s.toList = [] := by rw [ByteArray.toList_eq]; exact hne
    have HNE := Lib.hid hne
    clear hne h0
    by_cases h253 : 253 < s.size
    · have HLO := Lib.hid (isN_long (s := s.data.toList) (by rw [str_len]; exact h253))
      have i1 : (253 : Int) < s.size := by omega
      go_enter Tryd.func22, Tryd.ntmps22
      go_wp2
      refine bodyPost_ret (results_tmp2 rfl _ _ _) rfl ?_
      exact .inr ⟨HLO.out, rfl, rf w⟩
    · have i1 : ¬ (253 : Int) < s.size := by omega
      have HSZ := Lib.hid (show s.data.toList.length ≤ 253 by rw [str_len]; omega)
      have hz : s.size ≤ 253 := by omega
      have O0 := Lib.hid (own_lit (base := w.heap.size) (e := 9) (size := 1) w #[.string ⟨#[]⟩] 1 rfl (Nat.le_refl _) (by unfold maxLen; omega) rfl)
      have B0 := Lib.hid (al (rf w) (.cells #[.string ⟨#[]⟩] 9))
      clear h253
      go_enter Tryd.func22, Tryd.ntmps22
      go_wp2
      go_loopw [4, 5] (fun v i wr => ∃ (q : Nat) (init : List (List UInt8)) (last : List UInt8) (g cap : Nat), q ≤ s.size ∧ i = .int .i64 q ∧ v = .slice (some ⟨g, 0, none⟩) (init.length + 1) cap ∧
          Hid (wr.ownsRow w.heap.size 9 1 (.slice (some ⟨g, 0, none⟩) (init.length + 1) cap) (init.length + 1) (strs (init ++ [last]))) ∧ Hid (glue init last (s.data.toList.drop q) = spl s.data.toList) ∧ init.length ≤ q ∧ last.length ≤ q ∧ Hid (Below w.heap.size w wr)) (fun _ i _ => s.size - (intOf i).toNat)
      case atStart => exact ⟨0, [], [], w.heap.size, 1, by omega, rfl, rfl, O0.out, glue_start _, by simp, by simp, B0⟩
      case round =>
        obtain ⟨q, init, last, g, cap, hq, rfl, rfl, OWN, HG, hi, hla, BEL⟩ := hrel
        by_cases hlt : q < s.size
        · have k0 : (0 : Int) ≤ q := by omega
          have k1 : (q : Int) < s.size := by omega
          have hdr : s.data.toList.drop q = s[q] :: s.data.toList.drop (q + 1) := by
            rw [List.drop_eq_getElem_cons (by rw [str_len]; exact hlt)]; rfl
          by_cases hd : s[q] = 46
          · have HN : Hid (glue (init ++ [last]) [] (s.data.toList.drop (q + 1)) = spl s.data.toList) := by
              show _ = _
              rw [← HG.out, hdr, hd, glue_dot]
            have y0 : ((s[q].toNat : Int) == 46) = true := by rw [hd]; rfl
            have own := OWN.out
            clear hdr hd
            go_wp2_with (at_builtin
                         refine app_any stS rfl (.tmp 23) (.tmp 24) rfl w.heap.size _ _ _ rfl (own.alloc _) _ 1 _ [.string ⟨#[]⟩] rfl (Reads.one (blk_at _ _ _ ?b4)) (by simp [Value.oneCell']) (by omega) (by omega) ?b3 ?_
                         case b4 => simp
                         case b3 => have := BEL.out.size; simp; omega
                         intro v1 w1 own1 gr1 at1 bel1
                         obtain ⟨g1, cap1, rfl, _⟩ := World.ownsRow.form own1 (by omega)
                         have OWN1 := Lib.hid own1
                         have BEL1 : Hid (Below w.heap.size w w1) := (al BEL.out _).trans bel1
                         clear own1 gr1 at1 bel1 own)
            go_roundw
            case rel => exact ⟨q + 1, init ++ [last], [], g1, cap1, by omega, by go_num, by simp, by
              have h1 := OWN1.out
              have e : strs (init ++ [last] ++ [[]]) = strs (init ++ [last]) ++ [.string ⟨#[]⟩] := strs_app _ _
              show World.ownsRow _ _ _ _ _ _ _
              rw [e, show (init ++ [last]).length + 1 = init.length + 1 + 1 by simp]; exact h1, HN, by simp; omega, by simp, BEL1⟩
            case measure => simp [intOf]; omega
          · have HN : Hid (glue init (last ++ [s[q]]) (s.data.toList.drop (q + 1)) = spl s.data.toList) := by
              show _ = _
              rw [← HG.out, hdr, glue_char _ _ _ _ hd]
            have y0 : ((s[q].toNat : Int) == 46) = false := by
              rw [beq_eq_false_iff_ne]; intro e; exact hd (UInt8.toNat_inj.1 (by show s[q].toNat = 46; omega))
            have hc := World.ownsRow.cells (g := g) OWN.out rfl init.length (.string ⟨last.toArray⟩) (by rw [strs_at _ _ (by simp)]; simp)
            rw [Addr.add_mid, Nat.zero_add] at hc
            obtain ⟨g', cap', hv, hgb, _, _, _, cur, hb, _, _⟩ := own_form OWN.out (by omega)
            have hcc : cap = cap' := by injection hv
            have hA : g = g' := by injection hv with hA _ _; injection hA with hA; injection hA
            subst hA hcc
            clear hv
            have hf := Blk.frozen hb init.length
            have hex := extract_one s q hlt
            have hsl : (⟨last.toArray⟩ : ByteArray).size ≤ 253 := by show last.length ≤ 253; omega
            have hsn := str_snoc last s[q]
            clear hdr hd hb
            go_wp2
            go_region
            have ST := (World.ownsRow.stored OWN.out init.length (.string ⟨(last ++ [s[q]]).toArray⟩)).1
            rw [strs_set] at ST
            have OWN1 : Hid (World.ownsRow (wr.setCell ⟨g, init.length, none⟩ (.string ⟨(last ++ [s[q]]).toArray⟩)).drew w.heap.size 9 1 (.slice (some ⟨g, 0, none⟩) (init.length + 1) cap) (init.length + 1) (strs (init ++ [last ++ [s[q]]]))) := ST
            have BEL1 : Hid (Below w.heap.size w (wr.setCell ⟨g, init.length, none⟩ (.string ⟨(last ++ [s[q]]).toArray⟩)).drew) := (BEL.out.setCell (p := ⟨g, init.length, none⟩) hgb _).drew
            clear ST hc hf hex hsn
            go_wp2
            go_roundw
            case rel => exact ⟨q + 1, init, last ++ [s[q]], g, cap, by omega, by go_num, rfl, OWN1, HN, by omega, by simp; omega, BEL1⟩
            case measure => simp [intOf]; omega
        · obtain rfl : q = s.size := by omega
          obtain ⟨L, hL⟩ : ∃ L, init ++ [last] = L := ⟨_, rfl⟩
          have hLL : spl s.data.toList = L := by
            rw [← HG.out, ← str_len, List.drop_length, glue_end, hL]
          have hlen : init.length + 1 = L.length := by rw [← hL]; simp
          have own := OWN.out
          rw [hL, hlen] at own
          rw [hlen]
          have hl3 : L.length ≤ 300 := by omega
          have OWN1 := Lib.hid own
          have HLL := Lib.hid hLL
          clear own hL hLL hlen OWN HG
          obtain ⟨g', cap', hv, _, _, hcap, hcm, cur, hb, _, _⟩ := own_form OWN1.out (by
            have := spl_ne s.data.toList; rw [HLL.out] at this
            exact List.length_pos_iff.2 this)
          have hcc : cap = cap' := by injection hv
          subst hcc
          clear hv hb
          go_wp2
          go_loopw [6] (fun i w2 => ∃ k : Nat, k ≤ L.length ∧ i = .int .i64 k ∧ w2 = wr ∧ Hid (∀ j, (h : j < L.length) → j < k → okL L[j] = true)) (fun i _ => L.length - (intOf i).toNat)
          case atStart => exact ⟨0, by omega, rfl, rfl, fun j _ h => absurd h (by omega)⟩
          case round =>
            obtain ⟨k, hk, rfl, rfl, HK⟩ := hrel
            by_cases hlt2 : k < L.length
            · have hc := World.ownsRow.cells (g := g) OWN1.out rfl k _ (strs_at L k hlt2)
              rw [Addr.add_mid, Nat.zero_add] at hc
              have k0 : (0 : Int) ≤ k := by omega
              have k1 : (k : Int) < L.length := by omega
              have hsz : (⟨L[k].toArray⟩ : ByteArray).size = L[k].length := rfl
              generalize hx : (⟨L[k].toArray⟩ : ByteArray) = x at hc hsz
              have HSX := Lib.hid hsz
              clear hx hsz
              by_cases hok : okL L[k] = true
              · have hok2 := hok
                simp only [okL, Bool.and_eq_true, decide_eq_true_eq] at hok2
                have x1 : ¬ (x.size : Int) < 1 := by have := HSX.out; omega
                have x2 : ¬ (63 : Int) < x.size := by have := HSX.out; omega
                have HOK := Lib.hid hok
                clear hok hok2
                go_wp2
                go_roundw
                case rel => exact ⟨k + 1, by omega, by go_num, trivial, fun j h hj => by
                  by_cases hj' : j < k
                  · exact HK.out j h hj'
                  · obtain rfl : j = k := by omega
                    exact HOK.out⟩
                case measure => simp [intOf]; omega
              · have HB : Hid (isN s.data.toList = false) := isN_bad HNE.out (k := k) (by rw [HLL.out]; exact hlt2) (by
                  have e : (spl s.data.toList)[k]'(by rw [HLL.out]; exact hlt2) = L[k] := by congr 1
                  rw [e]; simpa using hok)
                have hor : x.size < 1 ∨ 63 < x.size := by
                  have := HSX.out
                  simp only [okL, Bool.and_eq_true, decide_eq_true_eq] at hok
                  omega
                clear hok
                rcases hor with hx1 | hx1
                · have x1 : (x.size : Int) < 1 := by omega
                  clear hx1
                  go_wp2
                  refine bodyPost_ret (results_tmp2 rfl _ _ _) rfl ?_
                  exact .inr ⟨HB.out, rfl, BEL.out⟩
                · have x1 : ¬ (x.size : Int) < 1 := by omega
                  have x2 : (63 : Int) < x.size := by omega
                  clear hx1
                  go_wp2
                  refine bodyPost_ret (results_tmp2 rfl _ _ _) rfl ?_
                  exact .inr ⟨HB.out, rfl, BEL.out⟩
            · have HG2 : Hid (isN s.data.toList = true) := isN_good HNE.out HSZ.out (fun j hj => by
                have e : (spl s.data.toList)[j]'hj = L[j]'(by rw [← HLL.out]; exact hj) := by congr 1
                rw [e]
                exact HK.out j _ (by have : j < L.length := by rw [← HLL.out]; exact hj
                                     omega))
              have HLB : Hid (lbs s.data.toList = L) := by show _ = _; unfold lbs; rw [if_neg HNE.out]; exact HLL.out
              go_wp2
              refine bodyPost_ret (results_tmp2 rfl _ _ _) rfl ?_
              exact .inl ⟨HG2.out, _, rfl, by rw [HLB.out]; exact OWN1.out, BEL.out⟩
end Go.Proofs.YtlojbnnmlpfnbaaDoor
