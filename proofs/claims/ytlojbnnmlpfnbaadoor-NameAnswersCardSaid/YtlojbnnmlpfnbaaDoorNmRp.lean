/-
  Names: the reference's Pack.
-/
import Derived.Test.YtlojbnnmlpfnbaaDoorNmQ
import Derived.Lib.AppendStr
set_option linter.unusedVariables false
namespace Go.Proofs.YtlojbnnmlpfnbaaDoor
open Go.RowKit

theorem step_appstr {ops : Array Oper} {o : Oper} {a : Act} {K : Act → World → Prop} {Q : Exit → Act → World → Prop} {X : Prop} {w : World} (hgd : o.guard = none) (s x : Operand)
    (ho : o.op = .call { callee := .builtin .append, args := #[s, x], argTypes := #[22, 9] })
    (base : Nat) (v : Value) (n : Nat) (xs : List Value) (hs : a.eval s = v) (hown : w.ownsRow base 5 1 v n xs) (str : ByteArray) (hx : a.eval x = .string str)
    (hlen : n + str.size ≤ 140737488355328) (hbase : base ≤ w.heap.size)
    (h : ∀ v' w', w'.ownsRow base 5 1 v' (n + str.size) (xs ++ Lib.strCells str) → Below base w w' → K (a.put o.dst v') w') :
    if Region.wanted o (yielded ops a.tmps) = true then Oper.wp Tryd.prog o a w K Q else X := by
  have hw : Region.wanted o (yielded ops a.tmps) = true := by simp [Region.wanted, hgd]
  rw [if_pos hw]
  obtain ⟨i, hi, hz0, hz1, hz2⟩ := info_parts stB.hi
  obtain ⟨v', w', hrun, h2, h3, _⟩ := Lib.run_append_own_string (P := Tryd.prog) w base 22 9 o.type 5 i Tryd.underlying22 Tryd.underlying9 hi hz0 hz1 hz2 v n xs hown str (by unfold maxLen; omega) hlen hbase
  unfold Oper.wp execOp
  simp only [ho, resolve, invoke, builtin, Sem.run_bind, Sem.run_pure, Result.andThen_ok, List.map_toArray, List.map_cons, List.map_nil, hs, hx, hrun]
  exact h v' w' h2 ((Below.refl _ _).grown h3 hbase (fun k hk => (hown.lt k hk).1))
theorem strCells_bytes (l : List UInt8) : Lib.strCells ⟨l.toArray⟩ = Lib.byteCells l := by simp [Lib.strCells, Lib.byteCells]
theorem rpS {w w' : World} {g k : Nat} {x : Value} (hc : w.cell? ⟨g, k, none⟩ = some x) (hg : g < w.heap.size) (b : Below w.heap.size w w') : w'.cell? ⟨g, k, none⟩ = some x ∧ Below w.heap.size w w' :=
  ⟨(b.cell (p := ⟨g, k, none⟩) hg).trans hc, b⟩
set_option maxHeartbeats 1600000 in
theorem rpackC (s : ByteArray) (w : World) (hs : s.size ≤ 1000000) : Calls Tryd.prog 9 #[.string s] w (PackP s.data.toList w) := by
  go_enter Tryd.func9, Tryd.ntmps9
  go_wp2_with fail
  refine (rlabelsC s w hs).mono ?_
  rintro e w1 (⟨hN, v, rfl, own, b1⟩ | ⟨hN, rfl, b1⟩)
  · obtain ⟨L, hL⟩ : ∃ L, lbs s.data.toList = L := ⟨_, rfl⟩
    have hszL : szL L ≤ 254 ∧ ∀ x ∈ L, x.length ≤ 63 := by
      rw [← hL]
      unfold isN at hN
      unfold lbs
      by_cases h0 : s.data.toList = []
      · rw [if_pos h0]; exact ⟨by simp [szL], by simp⟩
      · rw [if_neg h0]
        simp only [h0, decide_false, Bool.false_or, Bool.and_eq_true, decide_eq_true_eq, List.all_eq_true] at hN
        refine ⟨by rw [szL_spl]; omega, fun x hx => ?_⟩
        have := hN.2 x hx
        simp only [okL, Bool.and_eq_true, decide_eq_true_eq] at this
        exact this.2
    rw [hL] at own
    have HSL := Lib.hid hszL
    have HN := Lib.hid hN
    have HLL := Lib.hid hL
    have hlen : L.length ≤ 254 := Nat.le_trans (len_szL L) hszL.1
    clear hszL hN hL
    obtain ⟨A0, c0, rfl⟩ := own_slice own
    have OWN := Lib.hid own; clear own
    go_wp2
    go_loopw [6, 7] (fun vb i wr => ∃ k : Nat, k ≤ L.length ∧ i = .int .i64 k ∧ wr.ownsRow w1.heap.size 5 1 vb (pkl (L.take k)).length (Lib.byteCells (pkl (L.take k))) ∧ Below w1.heap.size w1 wr) (fun _ i _ => L.length - (intOf i).toNat)
    case atStart => exact ⟨0, by omega, rfl, World.ownsRow_nil _ _ _ _, rf w1⟩
    case round =>
      obtain ⟨k, hk, rfl, ob, bel⟩ := hrel
      have hlp : (pkl (L.take k)).length ≤ 254 := by
        rw [pkl_len]
        have h1 : szL (L.take k) ≤ szL L := by
          have h2 := szL_append (L.take k) (L.drop k)
          rw [List.take_append_drop] at h2; omega
        exact Nat.le_trans h1 HSL.out.1
      by_cases hlt : k < L.length
      · obtain ⟨g, cap, hv, _, hgl⟩ := World.ownsRow.form OWN.out (by omega)
        injection hv with hA hn hcc
        subst hA hcc
        clear hn
        have hc := World.ownsRow.cells (g := g) OWN.out rfl k _ (strs_at L k hlt)
        rw [Addr.add_mid, Nat.zero_add] at hc
        have k0 : (0 : Int) ≤ k := by omega
        have k1 : (k : Int) < L.length := by omega
        have hsz : (⟨L[k].toArray⟩ : ByteArray).size = L[k].length := rfl
        have hst := strCells_bytes L[k]
        have h63 : L[k].length ≤ 63 := HSL.out.2 _ (List.getElem_mem hlt)
        have hpt := pkl_take L k hlt (by omega)
        generalize hx : (⟨L[k].toArray⟩ : ByteArray) = x at hc hsz hst
        generalize L[k] = X at hpt hsz hst h63
        have hbe : Lib.byteCells (pkl (L.take k)) ++ [.int .u8 (x.size : Int)] ++ Lib.strCells x = Lib.byteCells (pkl (L.take (k + 1))) := by
          rw [hst, ← hpt, byteCells_app, byteCells_app, beB_one _ (by omega)]
          congr 2
          simp only [Lib.byteCells, List.map_cons, List.map_nil]
          rw [UInt8.toNat_ofNat', hsz, Nat.mod_eq_of_lt (by omega)]
        have hnl : (pkl (L.take k)).length + 1 + x.size = (pkl (L.take (k + 1))).length := by
          rw [← hpt, List.length_append, List.length_append, beB_len, hsz]
        have HBE := Lib.hid hbe
        have HNL := Lib.hid hnl
        have hx63 : x.size ≤ 63 := by omega
        have HC := Lib.hid hc
        have hwr := bel.size
        have OB := Lib.hid ob
        have HBEL := Lib.hid bel
        clear hx hsz hst hpt hbe hnl hc ob bel
        go_wp2
        have wl : IntKind.u8.wrap (x.size : Int) = x.size := by rw [IntKind.wrap_u8]; omega
        have wl2 : IntKind.i64.wrap (x.size : Int) = x.size := IntWalk.i64_in _ (by omega)
        go_region_held3 (fun w' => w'.cell? ⟨g, k, none⟩ = some (.string x) ∧ Below w1.heap.size w1 w')
          ((refine rpS HC.out hgl ?_; with_reducible (first | exact And.right (by assumption) | exact HBEL.out.drew | exact (al HBEL.out _).drew | exact al HBEL.out.drew _ | exact BA5 | exact BA4 | fail)))
          (first
            | (refine step_app stB rfl (.tmp 21) (.tmp 28) rfl w1.heap.size _ _ (Lib.byteCells (pkl (L.take k))) rfl (by first | exact own_nx OB.out (al (rf wr) _).drew | exact own_nx OB.out (al (rf wr).drew _)) _ 1 1 [.int .u8 (x.size : Int)] rfl (by first | exact (Reads.one (Blk.new wr _ _)).drew | exact Reads.one (Blk.new wr.drew _ _)) (by simp [Value.oneCell']) (by omega) (by omega) (by simp; omega) ?_; intro v4 w4 own4 gr4 at4 bel4
               have BA4 : Below w1.heap.size w1 w4 := (al HBEL.out _).drew.trans bel4
               have z4 := BA4.size)
            | (refine step_appstr rfl (.tmp 29) (.tmp 33) rfl w1.heap.size v4 _ _ rfl own4 x rfl (by omega) z4 ?_; intro v5 w5 own5 bel5
               have BA5 : Below w1.heap.size w1 w5 := BA4.trans bel5)
            | fail)
        all_goals
          have OWN5 : Hid (w5.ownsRow w1.heap.size 5 1 v5 (pkl (L.take (k + 1))).length (Lib.byteCells (pkl (L.take (k + 1))))) := by
            show World.ownsRow _ _ _ _ _ _ _
            rw [HBE.out, HNL.out] at own5
            exact own5
          have HB5 := Lib.hid BA5
          clear own4 own5 bel4 bel5 gr4 at4 BA4 BA5 wl wl2 z4
          go_wp2
          go_roundw
          case rel => exact ⟨k + 1, by omega, by go_num, OWN5.out, HB5.out⟩
          case measure => simp [intOf]; omega
      · obtain rfl : k = L.length := by omega
        have hbs := bel.size
        have OB := Lib.hid ob
        have HBEL := Lib.hid bel
        clear ob bel
        go_wp2_with (at_builtin
                     refine app_any stB rfl (.tmp 35) (.tmp 36) rfl w1.heap.size _ _ (Lib.byteCells (pkl (L.take L.length))) rfl (OB.out.alloc _) _ 1 _ [.int .u8 0] rfl (Reads.one (blk_at _ _ _ ?b4)) (by simp [Value.oneCell']) (by omega) (by omega) ?b3 ?_
                     case b4 => simp
                     case b3 => simp; omega
                     intro v4 w4 own4 gr4 at4 bel4
                     obtain ⟨A4, c4, rfl⟩ := own_slice own4)
        have e : Lib.byteCells (pkl (L.take L.length)) ++ [.int .u8 0] = Lib.byteCells (pk L) := by
          rw [List.take_length]; unfold pk; rw [byteCells_app]; rfl
        have e2 : (pkl (L.take L.length)).length + 1 = (pk L).length := by rw [List.take_length]; unfold pk; simp
        rw [e, e2] at own4
        rw [show (pkl L).length + 1 = (pk L).length from by unfold pk; simp]
        refine bodyPost_ret (results_tmp2 rfl _ _ _) rfl ?_
        refine .inl ⟨HN.out, A4, c4, by rw [HLL.out]; rfl, ?_, nx b1 ((al HBEL.out _).trans bel4)⟩
        rw [HLL.out]
        exact own_base own4 b1.size
  · have HN := Lib.hid hN; clear hN
    go_wp2
    refine bodyPost_ret (results_tmp2 rfl _ _ _) rfl ?_
    exact .inr ⟨HN.out, rfl, b1⟩
end Go.Proofs.YtlojbnnmlpfnbaaDoor
