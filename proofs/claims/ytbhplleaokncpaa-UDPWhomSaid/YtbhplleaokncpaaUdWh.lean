/-
  UDPWhom: a datagram that is to be read by another address than it was written for is refused, unless it has no sum. No conditions.
-/
import Derived.Test.YtbhplleaokncpaaUdT
set_option linter.unusedVariables false
namespace Go.Proofs.Ytbhplleaokncpaa
open Go.ChangeShapes Go.WideShapes Go.ChangeAt Go.RowKit
set_option maxRecDepth 100000
theorem and16u (m : Nat) (h1 : m ≤ 4294967295) : bits .and .u32 (m : Int) 65535 = ((m % 65536 : Nat) : Int) := by
  rw [u32_and _ _ (by omega) (by omega) (by omega) (by omega)]
  have : (m : Int).toNat &&& (65535 : Int).toNat = m % 65536 := by
    rw [Int.toNat_natCast]
    exact Nat.and_two_pow_sub_one_eq_mod m 16
  rw [this]
def wd (m : Nat) : Nat := words m % 65535
theorem wd_lt (m : Nat) : wd m < 65535 := by unfold wd; omega
set_option maxHeartbeats 400000 in
theorem wordsC (m : Nat) (w : World) (h1 : m ≤ 4294967295) :
    Calls Try.prog 29 #[.int .u32 m] w fun e w' => e = .returned (.int .i64 ((wd m : Nat) : Int)) ∧ w' = w := by
  have e1 := and16u m h1
  have HW : Hid (((m : Int) / 65536 + (m % 65536 : Nat)) % 65535 = ((wd m : Nat) : Int)) := by show _ = _; unfold wd words; omega
  have b1 : (0 : Int) ≤ (m : Int) / 65536 := by omega
  have b2 : (m : Int) / 65536 ≤ 65535 := by omega
  have b3 : ((m % 65536 : Nat) : Int) ≤ 65535 := by omega
  generalize m % 65536 = q at e1 HW b3
  have mI : (m : Int) ≤ 4294967295 := by omega
  go_enter Try.func29, Try.ntmps29
  go_wp2
  go_ret
  refine ⟨ret_int ?_, rfl⟩
  exact HW.out
-- same rows of bytes: only draws
set_option maxHeartbeats 400000 in
theorem udpWhom_walk (fr frp to_ top : Int) (A : Option Addr) (l : List UInt8) (c : Nat) (xf xt : Int) (w : World) (hk : okA fr to_) (hx : okA xf xt) (hb : Bytes w A l) (hl : l.length ≤ 9223372036854775807) :
    Calls Try.prog 12 #[.agg #[.int .u32 fr, .int .i64 frp, .int .u32 to_, .int .i64 top, .slice A l.length c], .int .u32 xf, .int .u32 xt] w fun e w' => e = .returned (.bool true) ∧ Below w.heap.size w w' := by
  obtain ⟨a, rfl⟩ : ∃ a : Nat, fr = a := ⟨fr.toNat, by have := hk.1; omega⟩
  obtain ⟨b, rfl⟩ : ∃ b : Nat, to_ = b := ⟨to_.toNat, by have := hk.2.2.1; omega⟩
  obtain ⟨u, rfl⟩ : ∃ a : Nat, xf = a := ⟨xf.toNat, by have := hx.1; omega⟩
  obtain ⟨v, rfl⟩ : ∃ b : Nat, xt = b := ⟨xt.toNat, by have := hx.2.2.1; omega⟩
  have ha : a ≤ 4294967295 := by have := hk.2.1; omega
  have hb4 : b ≤ 4294967295 := by have := hk.2.2.2; omega
  have hu : u ≤ 4294967295 := by have := hx.2.1; omega
  have hv : v ≤ 4294967295 := by have := hx.2.2.2; omega
  have HK := Lib.hid hk; clear hk
  have HXK := Lib.hid hx; clear hx
  obtain ⟨le, x, he⟩ : ∃ le x, encU a frp b top l = (le, x) := ⟨_, _, rfl⟩
  have HC := Lib.hid (encU_cases a frp b top l le x he)
  have HE := Lib.hid he; clear he
  by_cases h2 : 2000 < (l.length : Int)
  · go_enter Try.func12, Try.ntmps12
    go_wp2
    go_ret
    exact ⟨rfl, al (rf w) _⟩
  · have B0 := Blk.new w 37 #[.int .u32 a, .int .i64 frp, .int .u32 b, .int .i64 top, .slice A l.length c]
    rcases HC.out with ⟨hx, rfl⟩ | ⟨rfl, p0, p1, q0, q1, hl2, hle⟩
    · have hx1 : ((x : Int) != 0) = true := by rw [bne_iff_ne]; exact hx
      clear hx HC
      go_enter Try.func12, Try.ntmps12
      go_wp2_with (refine wpList_load_row rfl 37 (.tmp 3) rfl _ rfl _ _ _ _ B0 Try.underlying37 rfl (by kernel_rfl) ?_)
      refine (udpEnc_any a frp b top _ l [] _ _ x _ HK.out (hb.al _) rfl (by omega) HE).mono ?_
      rintro e w1 ⟨v1, rfl, hr⟩
      go_wp2_with fail
      refine (known _).mono ?_
      rintro e w8 ⟨rfl, hb8⟩
      go_wp2
      go_ret
      exact ⟨rfl, nx (nx (al (rf w) _) hr.2) hb8⟩
    · have hn : le.length = 8 + l.length := by rw [hle, udpB_len]
      -- what it is read as, behind the other addresses
      have hz := enc_zero a b u v frp top l ha hb4 hu hv (by omega) (by omega) hl2
      have hw := why_udp u v frp top l (encS a frp b top l) [] (by omega) (by omega) hl2 (encS_le _ _ _ _ _) (encS_ne _ _ _ _ _)
      have hd := dD_udp u v frp top l (encS a frp b top l) [] (by omega) (by omega) hl2 (encS_le _ _ _ _ _)
      rw [List.append_nil, ← hle] at hw hd
      rw [← hle] at hz
      have HR : Hid ((whyU u v le = 0 ∧ (words u + words v) % 65535 = (words a + words b) % 65535 ∧ dF u v le u = u ∧ dF u v le v = v ∧ dD u v le = l) ∨ (whyU u v le = 4 ∧ (words u + words v) % 65535 ≠ (words a + words b) % 65535)) := by
        show _ ∨ _
        by_cases h0 : sumU u v le = 0
        · rw [if_neg (by simp [h0])] at hw
          exact .inl ⟨hw, hz.1 h0, (dF_ok hw).1 _, (dF_ok hw).1 _, hd hw⟩
        · rw [if_pos h0] at hw
          exact .inr ⟨hw, fun h => h0 (hz.2 h)⟩
      have HLE := Lib.hid hle
      clear hle HC hz hw hd
      have n9 : le.length ≤ 10000 := by omega
      clear hn
      go_enter Try.func12, Try.ntmps12
      go_wp2_with (refine wpList_load_row rfl 37 (.tmp 3) rfl _ rfl _ _ _ _ B0 Try.underlying37 rfl (by kernel_rfl) ?_)
      refine (udpEnc_any a frp b top _ l le _ _ 0 _ HK.out (hb.al _) rfl (by omega) HE).mono ?_
      rintro e w1 ⟨v1, rfl, hr1⟩
      obtain ⟨A1, n1, c1, rfl, hn1⟩ := hr1.slice
      have BW1 := Lib.hid (nx (al (rf w) _) hr1.2)
      have B1 := Lib.hid (B0.nx hr1.2)
      have hnc : Hid (n1 ≤ c1) := by
        rcases hr1.1.2 with ⟨h1, h2⟩ | ⟨g, cap, cur, h1, _, _, h2, _⟩
        · injection h1 with _ h3 h4; show n1 ≤ c1; omega
        · injection h1 with _ h3 h4; show n1 ≤ c1; omega
      have hby : Hid (Bytes w1 A1 le) := by have h := hr1.1; rw [hn1.out] at h; exact Bytes.own h
      clear hr1
      go_wp2_with fail
      refine (udd_all u v A1 le n1 c1 _ HXK.out hby.out hn1.out (by rw [← hn1.out]; exact hnc.out) (by omega)).mono ?_
      rintro e w3 ⟨A3, n3, c3, rfl, hr3, hn3⟩
      have BW3 := Lib.hid (nx BW1.out hr3.2)
      have B3 := B1.out.nx hr3.2
      have by3 := Lib.hid (show Bytes w3 A3 (dD u v le) by have h := hr3.1; rw [← hn3.out] at h; exact (own_bytes h).2)
      clear hr3
      unfold dgV
      go_wp2_with fail
      have k0 : ∀ o, (w3.alloc o).cell? ⟨w.heap.size, 0, none⟩ = some (.int .u32 a) := fun o => (B3.alloc o).cell 0
      have k2 : ∀ o, (w3.alloc o).cell? ⟨w.heap.size, 2, none⟩ = some (.int .u32 b) := fun o => (B3.alloc o).cell 2
      have B3' := Lib.hid B3
      clear B3
      have a1 := wd_lt u
      have a2 := wd_lt v
      have a3 := wd_lt a
      have a4 := wd_lt b
      have r1 : IntKind.i64.wrap ((wd u : Int) + (wd v : Int)) = (wd u : Int) + (wd v : Int) := IntWalk.i64_in _ (by omega)
      have r2 : IntKind.i64.wrap ((wd a : Int) + (wd b : Int)) = (wd a : Int) + (wd b : Int) := IntWalk.i64_in _ (by omega)
      obtain ⟨m1, hm1, t1⟩ : ∃ m : Nat, m = (wd u + wd v) % 65535 ∧ ((wd u : Int) + (wd v : Int)).tmod 65535 = m := ⟨_, rfl, by rw [Int.tmod_eq_emod_of_nonneg (by omega)]; omega⟩
      obtain ⟨m2, hm2, t2⟩ : ∃ m : Nat, m = (wd a + wd b) % 65535 ∧ ((wd a : Int) + (wd b : Int)).tmod 65535 = m := ⟨_, rfl, by rw [Int.tmod_eq_emod_of_nonneg (by omega)]; omega⟩
      have hmm : Hid ((words u + words v) % 65535 = (words a + words b) % 65535 ↔ m1 = m2) := by
        show _ ↔ _
        rw [hm1, hm2]; unfold wd; omega
      clear hm1 hm2
      rcases HR.out with ⟨hy, hs, d1, d2, d3⟩ | ⟨hy, hs⟩
      · have hq : ((m1 : Int) == m2) = true := by rw [beq_iff_eq, hmm.out.1 hs]
        rw [d1, d2, hy]
        have by3' := by3
        rw [d3] at by3' hn3
        clear hs d1 d2 d3 hy HR by3
        go_quiet ((go_at_call 29; exact Calls.quiet_of_same (wordsC _ _ (by omega))))
        clear r1 r2 t1 t2
        have k4 : ∀ o, (w3.alloc o).cell? ⟨w.heap.size, 4, none⟩ = some (.slice A l.length c) := fun o => (B3'.out.alloc o).cell 4
        have hba := Lib.hid (hb.nx BW3.out)
        go_wp2_with fail
        refine (same_ _ A3 A l l n3 _ c3 c (by exact by3'.out.al _) (by exact hba.out.al _) hn3.out rfl (by omega) (by omega)).mono ?_
        rintro e w7 ⟨rfl, hb7⟩
        rw [show (l == l) = true by simp]
        go_wp2_with fail
        refine (known _).mono ?_
        rintro e w8 ⟨rfl, hb8⟩
        go_wp2
        go_ret
        exact ⟨rfl, nx (nx (dn (al BW3.out _) _) hb7) hb8⟩
      · have hq : ((m1 : Int) == m2) = false := by rw [beq_eq_false_iff_ne]; intro h; exact hs (hmm.out.2 (by omega))
        rw [hy]
        clear hs hy HR
        go_quiet ((go_at_call 29; exact Calls.quiet_of_same (wordsC _ _ (by omega))))
        clear r1 r2 t1 t2
        go_wp2_with fail
        refine (known _).mono ?_
        rintro e w8 ⟨rfl, hb8⟩
        go_wp2
        go_ret
        exact ⟨rfl, nx (dn (al BW3.out _) _) hb8⟩
theorem udpWhom_lifted (os : Os) (started : os.Started) (H : Type) (enc : TypeId × Value → H) :
    ReturnsInHanded {} Try.checked os 12 .any (Rows.uDPWhomSpec.pre6 enc Try.prog Try.f12 Rows.uDPWhomRow.domain false) (Rows.uDPWhomSpec.post enc Try.prog Try.f12 false true false false) :=
  law_lift started (by kernel_rfl) Try.func12
    (ChangeSpec.witness6 (enc := enc) (C := Try.checked) false ⟨#[], #[.agg #[.int .u32 0, .int .i64 0, .int .u32 0, .int .i64 0, .slice none 0 0], .int .u32 0, .int .u32 0], []⟩ 8 (by kernel_rfl) (by kernel_rfl) (by kernel_rfl) (by kernel_rfl))
    rfl rfl Try.underlying4 (by kernel_rfl) (fun ds h => match ds, h with | [_, _, _], _ => rfl)
    (fun W base args ds p hval hA hsz => by
      rw [Try.params12] at hA hval
      obtain ⟨v0, v1, v2, d0, d1, d2, p0, p1, p2, rfl, rfl, rfl, h0, h1, h2⟩ := trodAll_three hA
      obtain ⟨fr, frp, to_, top, A, l, c, rfl, hk, hb, hl⟩ := open_dgram (hval 0 37 v0 rfl rfl) h0
      obtain ⟨n1, rfl, a0, a1⟩ := open_addr (hval 1 23 v1 rfl rfl) h1
      obtain ⟨n2, rfl, a2, a3⟩ := open_addr (hval 2 23 v2 rfl rfl) h2
      exact udpWhom_walk fr frp to_ top A l c n1 n2 W hk ⟨a0, a1, a2, a3⟩ hb (by unfold maxLen at hl; omega))
theorem udpWhom_holds : Rows.UDPWhomSaid :=
  OpenClaim.holds_of_wide 12 Try.f12 rfl rfl rfl rfl rfl rfl rfl ⟨rfl, rfl, rfl, rfl, rfl⟩ rfl rfl rfl rfl rfl (by kernel_rfl) Try.func12 (by kernel_rfl)
    (of_decide_eq_true (by kernel_rfl)) (by unfold Func.isWrapper; rw [if_neg (of_decide_eq_false (by kernel_rfl))]; exact ⟨rfl, rfl⟩)
    (fun os started H enc _ => udpWhom_lifted os started H enc)
end Go.Proofs.Ytbhplleaokncpaa
