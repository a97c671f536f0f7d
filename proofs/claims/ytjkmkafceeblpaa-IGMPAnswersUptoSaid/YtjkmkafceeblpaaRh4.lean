/-
  Groups, the reference: its groups.
-/
import Derived.Test.YtjkmkafceeblpaaRh1
set_option linter.unusedVariables false
namespace Go.Proofs.Ytjkmkafceeblpaa
open Go.RowKit

set_option maxRecDepth 10000 in
set_option maxHeartbeats 3200000 in
theorem rgroupsK (w : World) {B h : Nat} {ms : List Mb} {v : Value} (o : IsRh w B h ms v) (hn : ms.length ≤ 16) :
    Calls Try.prog 25 #[.pointer (some ⟨h, 0, none⟩)] w fun e w' => ∃ V, e = .returned V ∧ OutA w w' V (keysG (ms.map toG)) ∧ Below w.heap.size w w' := by
  have HO := Lib.hid o
  obtain ⟨A, c, hv, hnc⟩ := o.own.form
  obtain ⟨n, hnn⟩ : ∃ n, ms.length = n := ⟨_, rfl⟩
  rw [hnn] at hv hnc hn
  subst hv
  have HN := Lib.hid hnn
  obtain ⟨KS, hKS⟩ : ∃ KS, keysG (ms.map toG) = KS := ⟨_, rfl⟩
  have hkl : KS.length = n := by rw [← hKS, keys_len, hnn]
  have HKL := Lib.hid hkl
  have HKE := Lib.hid (fun (k : Nat) (r : Mb) (hr : ms[k]? = some r) => (keys_at hr).symm.trans (congrArg (fun l => l[k]?) hKS))
  rw [hKS]
  clear o hnn hKS hkl
  go_enter Try.func25, Try.ntmps25
  go_wp2
  go_loopw [3, 4] (fun l iv wr => ∃ (k : Nat), iv = .int .i64 k ∧ k ≤ n ∧ Hid (OutA w wr l (KS.take k)) ∧ Hid (Below w.heap.size w wr)) (fun _ iv _ => n - (intOf iv).toNat)
  case atStart => exact ⟨0, rfl, Nat.zero_le _, OutA.nil _ _, rf w⟩
  case round =>
    obtain ⟨k, rfl, hk, Vk, Bk⟩ := hrel
    obtain ⟨ks, hks⟩ : ∃ ks, KS.take k = ks := ⟨_, rfl⟩
    rw [hks] at Vk
    have HKS := Lib.hid hks
    obtain ⟨VA, vc, rfl⟩ := own_slice (size := 1) Vk.out
    have hq : ks.length = k := by rw [← hks, List.length_take, HKL.out]; omega
    have VQ : Hid (wr.ownsRow w.heap.size 25 1 (.slice VA k vc) k (addrC ks)) := by
      have h := Vk.out
      unfold OutA at h
      rw [hq] at h
      exact h
    have HQ := Lib.hid hq
    rw [hq]
    clear hks hq Vk
    have Ok := Lib.hid (HO.out.nx Bk.out)
    have zk := Bk.out.size
    have ck : wr.cell? ⟨h, 0, none⟩ = some (.slice A n c) := Ok.out.host.cell 0
    by_cases hkn : k < n
    · have k0 : (0 : Int) ≤ k := by omega
      have k1 : (k : Int) < n := by omega
      obtain ⟨r, hr⟩ : ∃ r, ms[k]? = some r := ⟨_, List.getElem?_eq_getElem (by rw [HN.out]; exact hkn)⟩
      obtain ⟨g, hA, _, d0, d1, d2, d3⟩ := OwnB.cells Ok.out.own hr
      subst hA
      have hT : KS.take (k + 1) = ks ++ [r.g] := by
        rw [List.take_add_one, HKS.out, (HKE.out k r hr).symm]
        rfl
      have HT := Lib.hid hT
      have V4 := Lib.hid (own_nx VQ.out (al (rf wr) (.cells #[.int .u32 r.g] 25)))
      have B4 := Lib.hid (Bk.out.alloc zk (.cells #[.int .u32 r.g] 25))
      have z4 := B4.out.size
      clear hr hT
      go_wp2_with (at_builtin
                   refine app_any stAd rfl (.tmp 14) (.tmp 23) rfl w.heap.size (.slice VA k vc) k (addrC ks) rfl V4.out _ 1 1 [.int .u32 r.g] rfl (Reads.one (blk_at _ _ _ ?b8)) (by simp [Value.oneCell']) (by omega) (by omega) z4 ?_
                   case b8 => simp
                   intro v5 w5 own5 gr5 at5 bel5
                   obtain ⟨A5, c5, rfl⟩ := own_slice own5)
      have VN : Hid (OutA w w5 (.slice A5 (k + 1) c5) (KS.take (k + 1))) := by
        show OutA _ _ _ _
        rw [HT.out]
        unfold OutA addrC
        rw [List.length_append, HQ.out, List.map_append]
        exact own5
      have BN := Lib.hid (B4.out.trans bel5)
      clear own5 gr5 at5 bel5 d0 d1 d2 d3 ck
      go_wp2
      go_roundw
      case rel => exact ⟨k + 1, by go_num, by omega, VN.out, BN.out⟩
      case measure => simp [intOf]; omega
    · obtain rfl : k = n := by omega
      have hE : OutA w wr (.slice VA k vc) KS := by
        have h2 := HKS.out
        rw [List.take_of_length_le (by rw [HKL.out]; omega)] at h2
        rw [h2]
        unfold OutA
        rw [HQ.out]
        exact VQ.out
      have HEE := Lib.hid hE
      clear hE
      go_wp2
      go_ret
      exact ⟨_, rfl, HEE.out, Bk.out⟩
end Go.Proofs.Ytjkmkafceeblpaa
