/-
  A datagram's bytes: the program's Encode.
-/
import Derived.Test.YtbhplleaokncpaaUdE
set_option linter.unusedVariables false
namespace Go.Proofs.Ytbhplleaokncpaa
open Go.RowKit

-- a well-formed datagram's numbers
structure Dg.ok (d : Dg) : Prop where
  f0 : 0 ≤ d.fr
  f1 : d.fr ≤ 4294967295
  t0 : 0 ≤ d.to_
  t1 : d.to_ ≤ 4294967295
def badArg (d : Dg) : Prop := (d.frp < 0 ∨ 65535 < d.frp) ∨ (d.top < 0 ∨ 65535 < d.top)
set_option maxHeartbeats 800000 in
theorem uenc_arg (d : Dg) (w : World) (h : badArg d) :
    Calls Try.prog 21 #[.agg d.cs.toArray] w fun e w' => e = .returned (.tuple #[.slice none 0 0, .int .i64 1]) ∧ Below w.heap.size w w' := by
  have D0 := Blk.new w 37 d.cs.toArray
  have c1 : (w.alloc (.cells d.cs.toArray 37)).cell? ⟨w.heap.size, 1, none⟩ = some (.int .i64 d.frp) := D0.cell 1
  have c3 : (w.alloc (.cells d.cs.toArray 37)).cell? ⟨w.heap.size, 3, none⟩ = some (.int .i64 d.top) := D0.cell 3
  have bw := Lib.hid (al (rf w) (.cells d.cs.toArray 37))
  clear D0
  by_cases h1 : d.frp < 0 ∨ 65535 < d.frp
  · have hd1 : decide (0 ≤ d.frp ∧ d.frp ≤ 65535) = false := decide_eq_false (by omega)
    have HD := Lib.hid hd1
    clear h h1 hd1
    go_enter Try.func21, Try.ntmps21
    go_wp2_with fail
    refine (portC d.frp _).mono ?_
    rintro e w1 ⟨rfl, hw⟩
    rw [HD.out]
    subst hw
    go_wp2
    go_ret2
    exact ⟨rfl, bw.out⟩
  · have h2 : d.top < 0 ∨ 65535 < d.top := by rcases h with h | h; exact absurd h h1; exact h
    have hd1 : decide (0 ≤ d.frp ∧ d.frp ≤ 65535) = true := decide_eq_true (by omega)
    have hd2 : decide (0 ≤ d.top ∧ d.top ≤ 65535) = false := decide_eq_false (by omega)
    have HD := Lib.hid hd1
    have HD2 := Lib.hid hd2
    clear h h1 h2 hd1 hd2
    go_enter Try.func21, Try.ntmps21
    go_wp2_with fail
    refine (portC d.frp _).mono ?_
    rintro e w1 ⟨rfl, hw⟩
    rw [HD.out]
    subst hw
    go_wp2_with fail
    refine (portC d.top _).mono ?_
    rintro e w1 ⟨rfl, hw⟩
    rw [HD2.out]
    subst hw
    go_wp2
    go_ret2
    exact ⟨rfl, bw.out⟩
set_option maxHeartbeats 800000 in
theorem uenc_long (d : Dg) (A : Option Addr) (l : List UInt8) (c : Nat) (w : World) (hda : d.data = .slice A l.length c) (h : ¬ badArg d) (hl : 65507 < l.length) (hl2 : l.length ≤ 1099511627776) :
    Calls Try.prog 21 #[.agg d.cs.toArray] w fun e w' => e = .returned (.tuple #[.slice none 0 0, .int .i64 5]) ∧ Below w.heap.size w w' := by
  have D0 := Blk.new w 37 d.cs.toArray
  have c1 : (w.alloc (.cells d.cs.toArray 37)).cell? ⟨w.heap.size, 1, none⟩ = some (.int .i64 d.frp) := D0.cell 1
  have c3 : (w.alloc (.cells d.cs.toArray 37)).cell? ⟨w.heap.size, 3, none⟩ = some (.int .i64 d.top) := D0.cell 3
  have c4 : (w.alloc (.cells d.cs.toArray 37)).cell? ⟨w.heap.size, 4, none⟩ = some (.slice A l.length c) := (D0.cell 4).trans (by show some d.data = _; rw [hda])
  have bw := Lib.hid (al (rf w) (.cells d.cs.toArray 37))
  have hd1 : decide (0 ≤ d.frp ∧ d.frp ≤ 65535) = true := decide_eq_true (by unfold badArg at h; omega)
  have hd2 : decide (0 ≤ d.top ∧ d.top ≤ 65535) = true := decide_eq_true (by unfold badArg at h; omega)
  have HD := Lib.hid hd1
  have HD2 := Lib.hid hd2
  have hli : (65507 : Int) < l.length := by omega
  clear D0 hda h hd1 hd2 hl hl2
  go_enter Try.func21, Try.ntmps21
  go_wp2_with fail
  refine (portC d.frp _).mono ?_
  rintro e w1 ⟨rfl, hw⟩
  rw [HD.out]
  subst hw
  go_wp2_with fail
  refine (portC d.top _).mono ?_
  rintro e w1 ⟨rfl, hw⟩
  rw [HD2.out]
  subst hw
  go_wp2
  go_ret2
  exact ⟨rfl, bw.out⟩
set_option maxHeartbeats 1600000 in
theorem uenc_ok (d : Dg) (A : Option Addr) (l : List UInt8) (c : Nat) (w : World) (hda : d.data = .slice A l.length c) (hb : Bytes w A l) (hok : d.ok) (h : ¬ badArg d) (hl : l.length ≤ 65507) :
    Calls Try.prog 21 #[.agg d.cs.toArray] w fun e w' => ∃ v, e = .returned (.tuple #[v, .int .i64 0]) ∧ IsRow w w' (udpB d.frp d.top l (encS d.fr d.frp d.to_ d.top l)) v := by
  have D0 := Blk.new w 37 d.cs.toArray
  have c1 : (w.alloc (.cells d.cs.toArray 37)).cell? ⟨w.heap.size, 1, none⟩ = some (.int .i64 d.frp) := D0.cell 1
  have c3 : (w.alloc (.cells d.cs.toArray 37)).cell? ⟨w.heap.size, 3, none⟩ = some (.int .i64 d.top) := D0.cell 3
  have c4 : (w.alloc (.cells d.cs.toArray 37)).cell? ⟨w.heap.size, 4, none⟩ = some (.slice A l.length c) := (D0.cell 4).trans (by show some d.data = _; rw [hda])
  have bw := Lib.hid (al (rf w) (.cells d.cs.toArray 37))
  have hd1 : decide (0 ≤ d.frp ∧ d.frp ≤ 65535) = true := decide_eq_true (by unfold badArg at h; omega)
  have hd2 : decide (0 ≤ d.top ∧ d.top ≤ 65535) = true := decide_eq_true (by unfold badArg at h; omega)
  have HD := Lib.hid hd1
  have HD2 := Lib.hid hd2
  have PB : Hid (0 ≤ d.frp ∧ d.frp ≤ 65535 ∧ 0 ≤ d.top ∧ d.top ≤ 65535) := by unfold badArg at h; exact ⟨by omega, by omega, by omega, by omega⟩
  have hli : (l.length : Int) ≤ 65507 := by omega
  have HDA := Lib.hid hda
  have HL := Lib.hid hl
  have HOK := Lib.hid hok
  have HDB := Lib.hid D0
  have HB := Lib.hid (hb.nx bw.out)
  clear D0 hda h hd1 hd2 hl hok hb
  go_enter Try.func21, Try.ntmps21
  go_wp2_with fail
  refine (portC d.frp _).mono ?_
  rintro e w1 ⟨rfl, hw⟩
  rw [HD.out]
  subst hw
  go_wp2_with fail
  refine (portC d.top _).mono ?_
  rintro e w1 ⟨rfl, hw⟩
  rw [HD2.out]
  subst hw
  go_wp2
  clear c1 c3 c4
  change Code.wp _ _ _ _ (w.alloc (.cells d.cs.toArray 37))
  generalize w.alloc (.cells d.cs.toArray 37) = W at HDB HB bw ⊢
  have k0 : W.cell? ⟨w.heap.size, 0, none⟩ = some (.int .u32 d.fr) := HDB.out.cell 0
  have k2 : W.cell? ⟨w.heap.size, 2, none⟩ = some (.int .u32 d.to_) := HDB.out.cell 2
  have KK : Hid (∀ w', Below W.heap.size W w' → w'.cell? ⟨w.heap.size, 0, none⟩ = some (.int .u32 d.fr) ∧ w'.cell? ⟨w.heap.size, 2, none⟩ = some (.int .u32 d.to_)) := fun w' hb => ⟨(HDB.out.nx hb).cell 0, (HDB.out.nx hb).cell 2⟩
  go_region_held3 (fun w' => w'.cell? ⟨w.heap.size, 0, none⟩ = some (.int .u32 d.fr) ∧ w'.cell? ⟨w.heap.size, 2, none⟩ = some (.int .u32 d.to_)) (first | exact KK.out _ (rf _).drew | exact KK.out _ (nx (rf _).drew hr2.2) | exact KK.out _ (nx (nx (rf _).drew hr2.2) hb3))
    (first
      | (go_at_call 43; refine (allC d _ A l c 0 _ (by exact HDB.out) HDA.out (by exact HB.out) HL.out PB.out.1 PB.out.2.1 PB.out.2.2.1 PB.out.2.2.2 (by decide) (by decide)).mono ?_; rintro e w2 ⟨v2, rfl, hr2⟩; obtain ⟨A2, n2, c2, rfl, hn2⟩ := hr2.slice)
      | (go_at_call 47; refine (usumC d.fr d.to_ A2 (udpB d.frp d.top l 0) _ c2 _ (by have h2 := hn2.out; subst h2; exact hr2.bytes) (by exact hn2.out) (by rw [udpB_len]; have := HL.out; omega) HOK.out.f0 HOK.out.f1 HOK.out.t0 HOK.out.t1).mono ?_; rintro e w3 ⟨rfl, hb3⟩))
  have hb2 : Below W.heap.size W w3 := nx (nx (rf W).drew hr2.2) hb3
  have HDB3 := Lib.hid (HDB.out.nx hb2)
  have HB3 := Lib.hid (HB.out.nx hb2)
  have BW3 := Lib.hid (nx bw.out hb2)
  have hle : sumU d.fr d.to_ (udpB d.frp d.top l 0) ≤ 65535 := sumB_le _
  have HE : Hid (encS d.fr d.frp d.to_ d.top l = if sumU d.fr d.to_ (udpB d.frp d.top l 0) = 0 then 65535 else sumU d.fr d.to_ (udpB d.frp d.top l 0)) := rfl
  clear hr2 hb3 hb2 HDB HB bw k0 k2 KK hn2
  rename_i hHeld
  clear hHeld
  generalize sumU d.fr d.to_ (udpB d.frp d.top l 0) = s at HE hle ⊢
  by_cases hs : s = 0
  · have q : ((s : Int) == 0) = true := by rw [beq_iff_eq]; omega
    have HE2 : Hid (encS d.fr d.frp d.to_ d.top l = (65535 : Int).toNat) := by show _ = _; rw [HE.out, if_pos hs]; rfl
    clear hs HE
    go_wp2_with fail
    refine (allC d _ A l c 65535 _ HDB3.out HDA.out HB3.out HL.out PB.out.1 PB.out.2.1 PB.out.2.2.1 PB.out.2.2.2 (by decide) (by decide)).mono ?_
    rintro e w4 ⟨v, rfl, hr⟩
    have HR := Lib.hid hr; clear hr
    go_wp2
    go_ret2
    rw [HE2.out]
    exact ⟨_, rfl, own_base HR.out.1 BW3.out.size, nx BW3.out HR.out.2⟩
  · have q : ((s : Int) == 0) = false := by rw [beq_eq_false_iff_ne]; omega
    have HE2 : Hid (encS d.fr d.frp d.to_ d.top l = (s : Int).toNat) := by show _ = _; rw [HE.out, if_neg hs]; rfl
    have s1 : (s : Int) ≤ 65535 := by omega
    clear hs HE
    go_wp2_with fail
    refine (allC d _ A l c s _ HDB3.out HDA.out HB3.out HL.out PB.out.1 PB.out.2.1 PB.out.2.2.1 PB.out.2.2.2 (by omega) s1).mono ?_
    rintro e w4 ⟨v, rfl, hr⟩
    have HR := Lib.hid hr; clear hr
    go_wp2
    go_ret2
    rw [HE2.out]
    exact ⟨_, rfl, own_base HR.out.1 BW3.out.size, nx BW3.out HR.out.2⟩
end Go.Proofs.Ytbhplleaokncpaa
