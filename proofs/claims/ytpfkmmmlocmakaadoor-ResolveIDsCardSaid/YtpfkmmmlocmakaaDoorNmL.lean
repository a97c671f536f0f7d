/-
  Names: the program's labels and Pack.
-/
import Derived.Test.YtpfkmmmlocmakaaDoorNmP
import Derived.Test.YtpfkmmmlocmakaaDoorNmS
import Derived.Test.YtpfkmmmlocmakaaDoorOctW
set_option linter.unusedVariables false
namespace Go.Proofs.YtpfkmmmlocmakaaDoor
open Go.RowKit

-- the variable of the library's own that strings.Split may read
def MaxL (w : World) : Prop := ∃ m : Int, w.cell? ⟨0, 0, none⟩ = some (.int .i64 m)
theorem MaxL.nx {w w' : World} (h : MaxL w) (k : Below w.heap.size w w') : MaxL w' := by
  obtain ⟨m, hm⟩ := h
  have hlt : 0 < w.heap.size := by
    rcases Nat.lt_or_ge 0 w.heap.size with h' | h'
    · exact h'
    · simp [World.cell?, Array.getElem?_eq_none h'] at hm
  exact ⟨m, (k.cell (p := ⟨0, 0, none⟩) hlt).trans hm⟩
theorem splitB_spl (s : ByteArray) : (Lib.splitB ⟨#[46]⟩ 0 (Lib.countB s ⟨#[46]⟩) s).map Value.string = strs (spl s.data.toList) ∧ Lib.countB s ⟨#[46]⟩ + 1 = (spl s.data.toList).length := by
  have h1 := Lib.splitB_data ⟨#[46]⟩ 0 (Lib.countB s ⟨#[46]⟩) s
  have h3 := Lib.splitB_all ⟨#[46]⟩ (by decide) 0 _ s rfl
  have hc : Lib.countB s ⟨#[46]⟩ = s.data.toList.count 46 := Lib.count_one 46 s.data.toList
  rw [hc] at h1 h3 ⊢
  have h2 : Lib.splitK [46] 0 (s.data.toList.count 46) s.data.toList = spl s.data.toList := splitK_spl _
  have e : (⟨#[46]⟩ : ByteArray).data.toList = [46] := rfl
  rw [e, h2] at h1
  refine ⟨?_, ?_⟩
  · unfold strs
    rw [← h1, List.map_map]
    apply List.map_congr_left
    intro x _
    show Value.string x = Value.string ⟨x.data.toList.toArray⟩
    simp
  · rw [← h1, List.length_map, h3]
theorem splitC (s : ByteArray) (w : World) (hs : s.size ≤ 253) (hm : MaxL w) :
    Calls Tryd.prog 64 #[.string s, .string ⟨#[46]⟩] w fun e w' => ∃ g, e = .returned (.slice (some ⟨g, 0, none⟩) (spl s.data.toList).length (spl s.data.toList).length) ∧ w'.ownsRow w.heap.size 9 1 (.slice (some ⟨g, 0, none⟩) (spl s.data.toList).length (spl s.data.toList).length) (spl s.data.toList).length (strs (spl s.data.toList)) ∧ Below w.heap.size w w' := by
  obtain ⟨m, hm⟩ := hm
  obtain ⟨e1, e2⟩ := splitB_spl s
  refine (Tryd.strings_Split s ⟨#[46]⟩ m w (by omega) hm (by decide)).mono ?_
  rintro e w' ⟨rfl, rfl⟩
  rw [e1, e2]
  refine ⟨_, rfl, ?_, al (rf w) _⟩
  have hz : (spl s.data.toList).length ≤ 300 := by
    have h1 := len_szL (spl s.data.toList)
    have h2 := szL_spl s.data.toList
    rw [str_len] at h2
    omega
  have := own_lit (base := w.heap.size) (e := 9) (size := 1) w (strs (spl s.data.toList)).toArray (spl s.data.toList).length rfl (Nat.le_refl _) (by unfold maxLen; omega) (by simp [strs_len])
  simpa using this
def LabP (s : List UInt8) (w : World) (e : Ending) (w' : World) : Prop :=
  (isN s = true ∧ ∃ v, e = .returned (.tuple #[v, .bool true]) ∧ w'.ownsRow w.heap.size 9 1 v (lbs s).length (strs (lbs s)) ∧ Below w.heap.size w w') ∨
  (isN s = false ∧ e = .returned (.tuple #[.slice none 0 0, .bool false]) ∧ Below w.heap.size w w')
theorem isN_long {s : List UInt8} (h : 253 < s.length) : isN s = false := by
  unfold isN
  have h0 : s ≠ [] := by intro e; subst e; simp at h
  have h1 : ¬ s.length ≤ 253 := by omega
  simp [h0, h1]
theorem isN_bad {s : List UInt8} (h0 : s ≠ []) {k : Nat} (hk : k < (spl s).length) (hb : okL (spl s)[k] = false) : isN s = false := by
  unfold isN
  have : (spl s).all okL = false := by
    rw [← Bool.not_eq_true, List.all_eq_true]
    intro h
    have := h _ (List.getElem_mem hk)
    rw [hb] at this; cases this
  simp [h0, this]
theorem isN_good {s : List UInt8} (h0 : s ≠ []) (h1 : s.length ≤ 253) (h : ∀ k, (hk : k < (spl s).length) → okL (spl s)[k] = true) : isN s = true := by
  unfold isN
  have : (spl s).all okL = true := by
    rw [List.all_eq_true]
    intro x hx
    obtain ⟨k, hk, rfl⟩ := List.mem_iff_getElem.1 hx
    exact h k hk
  simp [h1, this]
theorem strs_at (ls : List (List UInt8)) (k : Nat) (hk : k < ls.length) : (strs ls)[k]? = some (.string ⟨ls[k].toArray⟩) := by simp [strs, hk]
set_option maxHeartbeats 800000 in
theorem labelsC (s : ByteArray) (w : World) (hs : s.size ≤ 1000000) (hm : MaxL w) : Calls Tryd.prog 45 #[.string s] w (LabP s.data.toList w) := by
  by_cases h0 : s.size = 0
  · have hl : s.data.toList = [] := List.eq_nil_of_length_eq_zero (by rw [str_len]; exact h0)
    have he : s.toList.isEmpty = true := by rw [ByteArray.toList_eq, hl]; rfl
    have he2 : s.toList = [] := by rw [ByteArray.toList_eq, hl]
    have HL := Lib.hid hl
    clear hl h0
    go_enter Tryd.func45, Tryd.ntmps45
    go_wp2
    refine bodyPost_ret (results_tmp2 rfl _ _ _) rfl ?_
    exact .inl ⟨by rw [HL.out]; rfl, _, rfl, by rw [HL.out]; exact World.ownsRow_nil _ _ _ _, rf w⟩
  · have hne : s.data.toList ≠ [] := by intro e; have := str_len s; rw [e] at this; simp at this; omega
    have he : s.toList.isEmpty = false := by rw [ByteArray.toList_eq]; cases hc : s.data.toList with | nil => exact absurd hc hne | cons a l => rfl
    have he2 : ¬ s.toList = [] := by rw [ByteArray.toList_eq]; exact hne
    have HNE := Lib.hid hne
    clear hne h0
    by_cases h253 : 253 < s.size
    · have HLO := Lib.hid (isN_long (s := s.data.toList) (by rw [str_len]; exact h253))
      have i1 : (253 : Int) < s.size := by omega
      go_enter Tryd.func45, Tryd.ntmps45
      go_wp2
      refine bodyPost_ret (results_tmp2 rfl _ _ _) rfl ?_
      exact .inr ⟨HLO.out, rfl, rf w⟩
    · have i1 : ¬ (253 : Int) < s.size := by omega
      have HSZ := Lib.hid (show s.data.toList.length ≤ 253 by rw [str_len]; omega)
      have HC := Lib.hid (splitC s w (by omega) hm)
      obtain ⟨L, hL⟩ : ∃ L, spl s.data.toList = L := ⟨_, rfl⟩
      have hl3 : L.length ≤ 300 := by
        have h1 := len_szL (spl s.data.toList)
        have h2 := szL_spl s.data.toList
        have := HSZ.out
        rw [← hL]; omega
      rw [hL] at HC
      have HLL := Lib.hid hL; clear hL
      go_enter Tryd.func45, Tryd.ntmps45
      go_wp2_with fail
      refine HC.out.mono ?_
      rintro e w1 ⟨g, rfl, own, b1⟩
      have OWN := Lib.hid own; clear own
      go_wp2
      have hmm : L.length ≤ maxLen := by unfold maxLen; omega
      go_loopw [16] (fun i wr => ∃ k : Nat, k ≤ L.length ∧ i = .int .i64 k ∧ wr = w1 ∧ Hid (∀ j, (h : j < L.length) → j < k → okL L[j] = true)) (fun i _ => L.length - (intOf i).toNat)
      case atStart => exact ⟨0, by omega, rfl, rfl, fun j _ h => absurd h (by omega)⟩
      case round =>
        obtain ⟨k, hk, rfl, rfl, HK⟩ := hrel
        by_cases hlt : k < L.length
        · have hc := World.ownsRow.cells (g := g) OWN.out rfl k _ (strs_at L k hlt)
          rw [Addr.add_mid, Nat.zero_add] at hc
          have k0 : (0 : Int) ≤ k := by omega
          have k1 : (k : Int) < L.length := by omega
          have hsz : (⟨L[k].toArray⟩ : ByteArray).size = L[k].length := rfl
          generalize hx : (⟨L[k].toArray⟩ : ByteArray) = x at hc hsz
          have HSX := Lib.hid hsz
          have HX := Lib.hid hx
          clear hx hsz
          by_cases hok : okL L[k] = true
          · have hok2 := hok
            simp only [okL, Bool.and_eq_true, decide_eq_true_eq] at hok2
            have x1 : ¬ (x.size : Int) < 1 := by have := HSX.out; omega
            have x2 : ¬ (63 : Int) < x.size := by have := HSX.out; omega
            have HOK := Lib.hid hok
            clear hok hok2
            go_wp2
            go_roundw
            case rel => exact ⟨k + 1, by omega, by go_num, trivial, fun j h hj => by
              by_cases hj' : j < k
              · exact HK.out j h hj'
              · obtain rfl : j = k := by omega
                exact HOK.out⟩
            case measure => simp [intOf]; omega
          · have HB : Hid (isN s.data.toList = false) := isN_bad HNE.out (k := k) (by rw [HLL.out]; exact hlt) (by
              have e : (spl s.data.toList)[k]'(by rw [HLL.out]; exact hlt) = L[k] := by congr 1
              rw [e]; simpa using hok)
            have hor : x.size < 1 ∨ 63 < x.size := by
              have := HSX.out
              simp only [okL, Bool.and_eq_true, decide_eq_true_eq] at hok
              omega
            clear hok
            rcases hor with hx1 | hx1
            · have x1 : (x.size : Int) < 1 := by omega
              clear hx1
              go_wp2
              refine bodyPost_ret (results_tmp2 rfl _ _ _) rfl ?_
              exact .inr ⟨HB.out, rfl, b1⟩
            · have x1 : ¬ (x.size : Int) < 1 := by omega
              have x2 : (63 : Int) < x.size := by omega
              clear hx1
              go_wp2
              refine bodyPost_ret (results_tmp2 rfl _ _ _) rfl ?_
              exact .inr ⟨HB.out, rfl, b1⟩
        · have HG : Hid (isN s.data.toList = true) := isN_good HNE.out HSZ.out (fun j hj => by
            have e : (spl s.data.toList)[j]'hj = L[j]'(by rw [← HLL.out]; exact hj) := by congr 1
            rw [e]
            exact HK.out j _ (by have : j < L.length := by rw [← HLL.out]; exact hj
                                 omega))
          have HLB : Hid (lbs s.data.toList = L) := by show _ = _; unfold lbs; rw [if_neg HNE.out]; exact HLL.out
          go_wp2
          refine bodyPost_ret (results_tmp2 rfl _ _ _) rfl ?_
          exact .inl ⟨HG.out, _, rfl, by rw [HLB.out]; exact OWN.out, b1⟩
end Go.Proofs.YtpfkmmmlocmakaaDoor
