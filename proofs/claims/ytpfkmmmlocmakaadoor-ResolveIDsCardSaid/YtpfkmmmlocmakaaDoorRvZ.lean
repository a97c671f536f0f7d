/-
  Resolve: the law's known.
-/
import Derived.Test.YtpfkmmmlocmakaaDoorRvQ
set_option linter.unusedVariables false
namespace Go.Proofs.YtpfkmmmlocmakaaDoor
open Go.RowKit Go.Maps

theorem row5 {w : World} {B : Nat} {D : Option Addr} {c : Nat} {d : Dg} (h : w.ownsRow B 36 5 (.slice D 1 c) 1 d.cs) : ∃ gd, D = some ⟨gd, 0, none⟩ ∧ B ≤ gd ∧ (∀ j u, d.cs[j]? = some u → w.cell? ⟨gd, j, none⟩ = some u) := by
  rcases h.2 with ⟨e, h0⟩ | ⟨g, cap, cur, e, hg, hh, h1, h2, h3, h4⟩
  · omega
  · injection e with e1 e2 e3
    refine ⟨g, e1, hg, fun j u hu => ?_⟩
    have hj : j < 5 := (List.getElem?_eq_some_iff.1 hu).1
    rw [Blk.cell (show Blk w g _ cur from hh), ← hu, ← h4, List.getElem?_take_of_lt (by omega), Array.getElem?_toList]
theorem ab3 : isN (⟨#[97, 46, 98]⟩ : ByteArray).data.toList = true := by decide +kernel
theorem len21 (id : Int) : (askB id ⟨#[97, 46, 98]⟩).length = 21 := by
  have h : (qB (⟨⟨#[97, 46, 98]⟩, 1, 1, 0, [], none, 0⟩ : Rc)).length = 9 := by decide +kernel
  unfold askB encM askM
  rw [List.length_append, List.length_append, flat2_len]
  simp only [List.flatMap_cons, List.flatMap_nil, List.append_nil, List.length_nil]
  rw [h]
  rfl
set_option maxRecDepth 100000 in
set_option maxHeartbeats 1600000 in
theorem knownR (w : World) (hm : MaxL w) (hpos : 0 < w.heap.size) : Calls Tryd.prog 9 #[] w fun e w' => e = .returned (.bool true) ∧ Below w.heap.size w w' := by
  have b0 : Below w.heap.size w (w.alloc (.cells #[.int .u32 5] 33)) := al (rf w) _
  have HN := Lib.hid (newC (w.alloc (.cells #[.int .u32 5] 33)) (some ⟨w.heap.size, 0, none⟩) [5] 1 4000 (Reads.one (blk_at _ _ _ rfl)) (by simp) (by simp) (by simp) (by omega) (by omega))
  have B0 := Lib.hid b0
  have HM := Lib.hid hm
  clear b0 hm
  go_enter Tryd.func9, Tryd.ntmps9
  go_wp2_with fail
  refine HN.out.mono ?_
  rintro e w1 ⟨z, rb, rfl, hR, hK, hsv, hpo, hse, hqs, _, _, _, b1⟩
  have B1 := Lib.hid (nx B0.out b1)
  have hz0 := b1.size
  have HSV := Lib.hid hsv
  have HPO := Lib.hid hpo
  have HSE := Lib.hid hse
  have HQS := Lib.hid hqs
  have HA := Lib.hid (askE w1 (w.alloc (.cells #[.int .u32 5] 33)).heap.size rb z ⟨#[97, 46, 98]⟩ 0 7 hR hK (HM.out.below B1.out hpos) (by rw [hqs]; decide) ab3 (by decide) (by decide) (by rw [hsv]; decide) (by rw [hsv]; decide) (by omega) (by omega) (by omega) (by omega) b1.size (by simp) (by rw [hqs]; simp))
  clear hR hK hsv hpo hse hqs b1 HN
  unfold ptr
  go_wp2_with fail
  refine HA.out.mono ?_
  rintro e w2 ⟨g, QA, qc, A, k, hg, FA, DA, fc, dc, rfl, _, _, own, _, _, _, b2⟩
  have BA := Lib.hid b2
  obtain ⟨gd, rfl, _, hc⟩ := row5 (d := ⟨z.port, svAt z 0, askB (idV 7 z.sent) ⟨#[97, 46, 98]⟩, A, k⟩) (by simpa using own)
  have c2 := hc 2 _ rfl
  have c3 := hc 3 _ rfl
  have c4 := hc 4 _ rfl
  rw [show svAt z 0 = 5 from by unfold svAt; rw [HSV.out]; rfl] at c2
  rw [len21] at c4
  clear hc own b2 HA
  go_wp2
  go_ret
  exact ⟨rfl, B1.out.trans (BA.out.mono (by simp))⟩
end Go.Proofs.YtpfkmmmlocmakaaDoor
