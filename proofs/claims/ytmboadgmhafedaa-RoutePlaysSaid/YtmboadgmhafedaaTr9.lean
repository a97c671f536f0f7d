/-
  Routes, the program: All.
-/
import Derived.Test.YtmboadgmhafedaaTr8
import Derived.Laws.EntriesVeiled
set_option linter.unusedVariables false
namespace Go.Proofs.Ytmboadgmhafedaa
open Go.RowKit

def AllP (w : World) (L : List R4) (e : Ending) (w' : World) : Prop := ∃ v, e = .returned v ∧ OwnL w' w.heap.size v L ∧ Below w.heap.size w w'
set_option maxRecDepth 10000 in
set_option maxHeartbeats 3200000 in
theorem allK (w : World) {B t : Nat} {L : List R4} {T : Tre} (h : Tab w B t L T) :
    Calls Try.prog 11 #[.pointer (some ⟨t, 0, none⟩)] w (AllP w L) := by
  have HT := Lib.hid h
  have hmf : ∀ (fn : Fn) (first cap : Array Value) (w : World), (Instr.makeFunc fn first cap).run Try.prog w = .ok (.func fn first cap) w := fun _ _ _ _ => rfl
  have bA := Blk.new w 22 #[.slice none 0 0]
  have bC := Blk.new (w.alloc (.cells #[.slice none 0 0] 22)) 61 #[.nilFunc]
  have e1 : (w.alloc (.cells #[.slice none 0 0] 22)).heap.size = w.heap.size + 1 := by simp
  rw [e1] at bC
  have bw : Below w.heap.size w ((w.alloc (.cells #[.slice none 0 0] 22)).alloc (.cells #[.nilFunc] 61)) := al (al (rf w) _) _
  have bA2 := bA.alloc (.cells #[.nilFunc] 61)
  have f1 := bC.frozen 0
  have z1 := bC.cell 0
  simp only [List.getElem?_toArray, List.getElem?_cons_zero] at z1
  clear h e1
  go_enter Try.func11, Try.ntmps11
  go_wp2
  have bF := Blk.new (w.alloc (.cells #[.slice none 0 0] 22)) 61 #[clo w.heap.size (w.heap.size + 1)]
  rw [show (w.alloc (.cells #[.slice none 0 0] 22)).heap.size = w.heap.size + 1 by simp] at bF
  have D0 : Dn w ((w.alloc (.cells #[.slice none 0 0] 22)).alloc (.cells #[clo w.heap.size (w.heap.size + 1)] 61)) w.heap.size (w.heap.size + 1) (.slice none 0 0) [] :=
    ⟨bA.alloc _, bF, World.ownsRow_nil _ _ _ _, al (al (rf w) _) _, Nat.le_refl _⟩
  unfold clo at D0
  generalize (w.alloc (.cells #[.slice none 0 0] 22)).alloc (.cells #[.func (Fn.func 23) #[] #[.pointer (some ⟨w.heap.size, 0, none⟩), .pointer (some ⟨w.heap.size + 1, 0, none⟩)]] 61) = W at D0 ⊢
  clear bF
  clear bA bC bw bA2 f1 z1
  have hl : (preL T 33 []).length = L.length := (pre_all HT.out).length_eq
  have hl64 := HT.out.ok.len
  obtain ⟨dr, hr1, hr2⟩ := HT.out.tr.root
  have DC := fun k : Below W.heap.size W W.drew => downK w HT.out.tr w.heap.size (w.heap.size + 1) 33 [] rfl W.drew _ [] (D0.nx k) (by rw [hl]; simp; omega)
  rw [hr1] at DC
  unfold ndV at DC
  simp only [hr2] at DC
  rw [List.nil_append] at DC
  have HDC := Lib.hid (DC (rf W).drew)
  have cf : W.cell? ⟨w.heap.size + 1, 0, none⟩ = some (.func (Fn.func 23) #[] #[.pointer (some ⟨w.heap.size, 0, none⟩), .pointer (some ⟨w.heap.size + 1, 0, none⟩)]) := D0.fn.cell 0
  have HL : Hid ((preL T 33 []).length ≤ 1000) := by show (preL T 33 []).length ≤ 1000; omega
  clear D0 DC hr1 hr2 hl hl64
  go_region_with (first
    | (go_at_call 23; refine HDC.out.mono ?_; rintro e w3 ⟨v3, rfl, D3⟩)
    | fail)
  have HD3 := Lib.hid D3
  obtain ⟨A3, c3, hv3, hc3⟩ := D3.own.form
  subst hv3
  have b3 : w3.cell? ⟨w.heap.size, 0, none⟩ = some (.slice A3 (preL T 33 []).length c3) := D3.box.cell 0
  clear cf D3
  have SC := Lib.hid (sortStableK w3 HD3.out.own HL.out)
  unfold cmpV at SC
  go_wp2_with fail
  refine SC.out.mono ?_
  rintro e w4 ⟨L4, rfl, o4, g4, r4, s4⟩
  have eL : L4 = L := all_eq HT.out r4 s4
  subst eL
  have b4 : w4.cell? ⟨w.heap.size, 0, none⟩ = some (.slice A3 (preL T 33 []).length c3) := (HD3.out.cellA g4).1
  have HE : Hid (AllP w L4 (.returned (.slice A3 (preL T 33 []).length c3)) w4) := ⟨_, rfl, o4, HD3.out.bel.trans ((Below.refl _ _).grown g4 HD3.out.bel.size (fun k e => (own_lo HD3.out.own e).1))⟩
  clear o4 g4 r4 s4 b3
  go_wp2
  go_ret
  exact HE.out
end Go.Proofs.Ytmboadgmhafedaa
