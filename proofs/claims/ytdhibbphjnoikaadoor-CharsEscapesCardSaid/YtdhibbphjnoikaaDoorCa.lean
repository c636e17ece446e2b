/-
  The walk of the law CharsEscapes.
-/
import Derived.Test.YtdhibbphjnoikaaDoorBy
import Derived.Outline
import Derived.LoopN
namespace Go.Proofs.YtdhibbphjnoikaaDoor
open Go.RowKit
set_option maxHeartbeats 4000000 in
set_option maxRecDepth 20000 in
theorem law_escapes (c d : Int) (w : World) (h : dbAt w) : Calls Tryd.prog 9 #[.int .i64 c, .int .i64 d] w fun e w' => e = .returned (.bool true) ∧ Below w.heap.size w w' := by
  have HD := Lib.hid h
  clear h
  have hcs : (c < 0) ∨ (255 < c) ∨ (0 ≤ c ∧ c ≤ 255) := by omega
  have hds : (d < 0) ∨ (255 < d) ∨ (0 ≤ d ∧ d ≤ 255) := by omega
  rcases hcs with hc | hc | hc
  · have HEC := Lib.hid (esc_out (c := c) (by rw [chr_no]; omega))
    have tc0 : decide (0 ≤ c) = false := by simp; omega
    clear hc
    rcases hds with hd | hd | hd
    · have HED := Lib.hid (esc_out (c := d) (by rw [chr_no]; omega))
      have td0 : decide (0 ≤ d) = false := by simp; omega
      clear hd
      go_enter Tryd.func9, Tryd.ntmps9
      go_wp2_with fail
      refine (escape_any c _ HD.out).mono ?_
      rintro e w1 ⟨rfl, HB⟩
      rw [HEC.out]
      replace HB := Lib.hid HB
      go_wp2_with fail
      refine (escape_any d _ (HD.out.below HB.out)).mono ?_
      rintro e w2 ⟨rfl, HB1⟩
      rw [HED.out]
      replace HB := Lib.hid (bNext HB.out HB1)
      clear HB1
      go_wp2_with fail
      refine (awake_any _).mono ?_
      rintro e w3 ⟨rfl, HB1⟩
      replace HB := Lib.hid (bNext HB.out HB1)
      clear HB1
      go_wp2_with fail
      go_ret
      exact ⟨rfl, HB.out⟩
    · have HED := Lib.hid (esc_out (c := d) (by rw [chr_no]; omega))
      have td0 : decide (0 ≤ d) = true := by simp; omega
      have td1 : decide (d ≤ 255) = false := by simp; omega
      clear hd
      go_enter Tryd.func9, Tryd.ntmps9
      go_wp2_with fail
      refine (escape_any c _ HD.out).mono ?_
      rintro e w1 ⟨rfl, HB⟩
      rw [HEC.out]
      replace HB := Lib.hid HB
      go_wp2_with fail
      refine (escape_any d _ (HD.out.below HB.out)).mono ?_
      rintro e w2 ⟨rfl, HB1⟩
      rw [HED.out]
      replace HB := Lib.hid (bNext HB.out HB1)
      clear HB1
      go_wp2_with fail
      refine (awake_any _).mono ?_
      rintro e w3 ⟨rfl, HB1⟩
      replace HB := Lib.hid (bNext HB.out HB1)
      clear HB1
      go_wp2_with fail
      go_ret
      exact ⟨rfl, HB.out⟩
    · have HCD := Lib.hid (chr_iff.2 hd)
      obtain ⟨t, ht⟩ : ∃ t, (esc d).1 = t := ⟨_, rfl⟩
      have HED := Lib.hid (show esc d = (t, true) from Prod.ext ht (esc_all HCD.out).1)
      clear ht
      have td0 : decide (0 ≤ d) = true := by simp; omega
      have td1 : decide (d ≤ 255) = true := by simp; omega
      clear hd
      go_enter Tryd.func9, Tryd.ntmps9
      go_wp2_with fail
      refine (escape_any c _ HD.out).mono ?_
      rintro e w1 ⟨rfl, HB⟩
      rw [HEC.out]
      replace HB := Lib.hid HB
      go_wp2_with fail
      refine (escape_any d _ (HD.out.below HB.out)).mono ?_
      rintro e w2 ⟨rfl, HB1⟩
      rw [HED.out]
      replace HB := Lib.hid (bNext HB.out HB1)
      clear HB1
      go_wp2_with fail
      refine (awake_any _).mono ?_
      rintro e w3 ⟨rfl, HB1⟩
      replace HB := Lib.hid (bNext HB.out HB1)
      clear HB1
      go_wp2_with fail
      go_ret
      exact ⟨rfl, HB.out⟩
  · have HEC := Lib.hid (esc_out (c := c) (by rw [chr_no]; omega))
    have tc0 : decide (0 ≤ c) = true := by simp; omega
    have tc1 : decide (c ≤ 255) = false := by simp; omega
    clear hc
    rcases hds with hd | hd | hd
    · have HED := Lib.hid (esc_out (c := d) (by rw [chr_no]; omega))
      have td0 : decide (0 ≤ d) = false := by simp; omega
      clear hd
      go_enter Tryd.func9, Tryd.ntmps9
      go_wp2_with fail
      refine (escape_any c _ HD.out).mono ?_
      rintro e w1 ⟨rfl, HB⟩
      rw [HEC.out]
      replace HB := Lib.hid HB
      go_wp2_with fail
      refine (escape_any d _ (HD.out.below HB.out)).mono ?_
      rintro e w2 ⟨rfl, HB1⟩
      rw [HED.out]
      replace HB := Lib.hid (bNext HB.out HB1)
      clear HB1
      go_wp2_with fail
      refine (awake_any _).mono ?_
      rintro e w3 ⟨rfl, HB1⟩
      replace HB := Lib.hid (bNext HB.out HB1)
      clear HB1
      go_wp2_with fail
      go_ret
      exact ⟨rfl, HB.out⟩
    · have HED := Lib.hid (esc_out (c := d) (by rw [chr_no]; omega))
      have td0 : decide (0 ≤ d) = true := by simp; omega
      have td1 : decide (d ≤ 255) = false := by simp; omega
      clear hd
      go_enter Tryd.func9, Tryd.ntmps9
      go_wp2_with fail
      refine (escape_any c _ HD.out).mono ?_
      rintro e w1 ⟨rfl, HB⟩
      rw [HEC.out]
      replace HB := Lib.hid HB
      go_wp2_with fail
      refine (escape_any d _ (HD.out.below HB.out)).mono ?_
      rintro e w2 ⟨rfl, HB1⟩
      rw [HED.out]
      replace HB := Lib.hid (bNext HB.out HB1)
      clear HB1
      go_wp2_with fail
      refine (awake_any _).mono ?_
      rintro e w3 ⟨rfl, HB1⟩
      replace HB := Lib.hid (bNext HB.out HB1)
      clear HB1
      go_wp2_with fail
      go_ret
      exact ⟨rfl, HB.out⟩
    · have HCD := Lib.hid (chr_iff.2 hd)
      obtain ⟨t, ht⟩ : ∃ t, (esc d).1 = t := ⟨_, rfl⟩
      have HED := Lib.hid (show esc d = (t, true) from Prod.ext ht (esc_all HCD.out).1)
      clear ht
      have td0 : decide (0 ≤ d) = true := by simp; omega
      have td1 : decide (d ≤ 255) = true := by simp; omega
      clear hd
      go_enter Tryd.func9, Tryd.ntmps9
      go_wp2_with fail
      refine (escape_any c _ HD.out).mono ?_
      rintro e w1 ⟨rfl, HB⟩
      rw [HEC.out]
      replace HB := Lib.hid HB
      go_wp2_with fail
      refine (escape_any d _ (HD.out.below HB.out)).mono ?_
      rintro e w2 ⟨rfl, HB1⟩
      rw [HED.out]
      replace HB := Lib.hid (bNext HB.out HB1)
      clear HB1
      go_wp2_with fail
      refine (awake_any _).mono ?_
      rintro e w3 ⟨rfl, HB1⟩
      replace HB := Lib.hid (bNext HB.out HB1)
      clear HB1
      go_wp2_with fail
      go_ret
      exact ⟨rfl, HB.out⟩
  · obtain ⟨s, hs⟩ : ∃ s, (esc c).1 = s := ⟨_, rfl⟩
    have HCC := Lib.hid (chr_iff.2 hc)
    have hall := esc_all HCC.out
    have HEC := Lib.hid (show esc c = (s, true) from Prod.ext hs hall.1)
    have hw := hall.2.2.1
    have HPR := Lib.hid hall.2.2.2
    rw [hs] at hw HPR
    clear hall
    obtain ⟨c0, c1⟩ := hc
    have tc0 : decide (0 ≤ c) = true := by simp; omega
    have tc1 : decide (c ≤ 255) = true := by simp; omega
    have hway : (∃ hz : s.size = 1, ((s[0]'(by omega)).toNat : Int) = c) ∨
        (∃ (hz : s.size = 2) (y : Int), ((s[0]'(by omega)).toNat : Int) = 92 ∧ ((s[1]'(by omega)).toNat : Int) = y ∧ unE y = (c, true)) ∨
        (∃ (hz : s.size = 4) (y : Int), ((s[0]'(by omega)).toNat : Int) = 92 ∧ ((s[1]'(by omega)).toNat : Int) = 120 ∧ ((s[2]'(by omega)).toNat : Int) = y ∧ ((s[3]'(by omega)).toNat : Int) = 92 ∧ digS y 16 = (c, true)) ∨
        (∃ (hz : s.size = 5) (y z q r : Int), ((s[0]'(by omega)).toNat : Int) = 92 ∧ ((s[1]'(by omega)).toNat : Int) = 120 ∧ ((s[2]'(by omega)).toNat : Int) = y ∧ ((s[3]'(by omega)).toNat : Int) = z ∧ ((s[4]'(by omega)).toNat : Int) = 92 ∧ digS y 16 = (q, true) ∧ digS z 16 = (r, true) ∧ 16 * q + r = c ∧ 0 ≤ q ∧ q ≤ 15) := by
      unfold wayE at hw
      simp only [Bool.or_eq_true, Bool.and_eq_true, beq_iff_eq, decide_eq_true_eq, or_assoc, and_assoc] at hw
      rcases hw with ⟨hz, h0⟩ | ⟨hz, h0, h1⟩ | ⟨hz, h0, h1, h2, -, h3⟩ | ⟨hz, h0, h1, h2, h3, h4, h5, h6, h7⟩
      · exact .inl ⟨hz, by rw [← bt_at]; exact h0⟩
      · exact .inr (.inl ⟨hz, _, by rw [← bt_at]; exact h0, (bt_at s 1 (by omega)).symm, h1⟩)
      · exact .inr (.inr (.inl ⟨hz, _, by rw [← bt_at]; exact h0, by rw [← bt_at]; exact h1, (bt_at s 2 (by omega)).symm, by rw [← bt_at]; exact h3, h2⟩))
      · exact .inr (.inr (.inr ⟨hz, _, _, (digS (bt s 2) 16).1, (digS (bt s 3) 16).1, by rw [← bt_at]; exact h0, by rw [← bt_at]; exact h1, (bt_at s 2 (by omega)).symm, (bt_at s 3 (by omega)).symm, by rw [← bt_at]; exact h7, Prod.ext rfl h2, Prod.ext rfl h3, h4, h5, h6⟩))
    clear hw
    have hsz : s.size ≤ 5 := by
      rcases hway with ⟨h, _⟩ | ⟨h, _⟩ | ⟨h, _⟩ | ⟨h, _⟩ <;> omega
    have hd4 : (d < 0) ∨ (255 < d) ∨ (0 ≤ d ∧ d ≤ 255 ∧ d = c) ∨ (0 ≤ d ∧ d ≤ 255 ∧ d ≠ c) := by omega
    clear hds
    rcases hd4 with hd | hd | ⟨hd1, hd2, rfl⟩ | ⟨hd1, hd2, hne⟩
    · have HED := Lib.hid (esc_out (c := d) (by rw [chr_no]; omega))
      have td0 : decide (0 ≤ d) = false := by simp; omega
      clear hd
      go_enter Tryd.func9, Tryd.ntmps9
      go_wp2_with fail
      refine (escape_any _ _ HD.out).mono ?_
      rintro e w1 ⟨rfl, HB⟩
      rw [HEC.out]
      replace HB := Lib.hid HB
      go_wp2_with fail
      refine (escape_any _ _ (HD.out.below HB.out)).mono ?_
      rintro e w2 ⟨rfl, HB1⟩
      rw [HED.out]
      replace HB := Lib.hid (bNext HB.out HB1)
      clear HB1
      go_wp2_with fail
      go_loop [9] (fun i => ∃ k : Nat, k ≤ s.size ∧ i = .int .i64 (k : Int)) (fun i => s.size - (intOf i).toNat)
      case atStart => exact ⟨0, by omega, rfl⟩
      case round =>
        obtain ⟨k, hk, rfl⟩ := hrel
        by_cases hlt : k < s.size
        · obtain ⟨p1, p2⟩ := prnt_at HPR.out k hlt
          have p3 : decide ((s[k].toNat : Int) < 32) = false := by simp; omega
          have p4 : decide (126 < (s[k].toNat : Int)) = false := by simp; omega
          go_wp2_with fail
          exact ⟨⟨k + 1, by omega, by go_num⟩, by simp [intOf]; omega⟩
        · obtain rfl : k = s.size := by omega
          rcases hway with ⟨hz, x0⟩ | ⟨hz, y, x0, x1, hu⟩ | ⟨hz, y, x0, x1, x2, x3, hu⟩ | ⟨hz, y, z, q, r, x0, x1, x2, x3, x4, hu, hv, hqr, q0, q1⟩
          · go_wp2_with fail
            refine (awake_any _).mono ?_
            rintro e w3 ⟨rfl, HB1⟩
            replace HB := Lib.hid (bNext HB.out HB1)
            clear HB1
            go_wp2_with fail
            go_ret
            exact ⟨rfl, HB.out⟩
          · have HU := Lib.hid hu
            have y0 : 0 ≤ y := by omega
            have y1 : y < 256 := by have := UInt8.toNat_lt (s[1]'(by omega)); omega
            have yw : wrap64 y = y := by unfold wrap64; omega
            clear hu
            go_wp2_with fail
            refine (unescape_any _ _).mono ?_
            rintro e w4 ⟨rfl, rfl⟩
            rw [HU.out]
            go_wp2_with fail
            refine (awake_any _).mono ?_
            rintro e w3 ⟨rfl, HB1⟩
            replace HB := Lib.hid (bNext HB.out HB1)
            clear HB1
            go_wp2_with fail
            go_ret
            exact ⟨rfl, HB.out⟩
          · have HU := Lib.hid hu
            have y0 : 0 ≤ y := by omega
            have y1 : y < 256 := by have := UInt8.toNat_lt (s[2]'(by omega)); omega
            have yw : wrap64 y = y := by unfold wrap64; omega
            clear hu
            go_wp2_with fail
            refine wp_loop_rounds 2 ?_
            rw [rounds_succ]
            go_wp2_with fail
            refine (digit_any _ _ _).mono ?_
            rintro e w4 ⟨rfl, rfl⟩
            rw [HU.out]
            go_wp2_with fail
            rw [rounds_succ]
            go_wp2_with fail
            refine (awake_any _).mono ?_
            rintro e w3 ⟨rfl, HB1⟩
            replace HB := Lib.hid (bNext HB.out HB1)
            clear HB1
            go_wp2_with fail
            go_ret
            exact ⟨rfl, HB.out⟩
          · have HU := Lib.hid hu
            have y0 : 0 ≤ y := by omega
            have y1 : y < 256 := by have := UInt8.toNat_lt (s[2]'(by omega)); omega
            have yw : wrap64 y = y := by unfold wrap64; omega
            have z0 : 0 ≤ z := by omega
            have z1 : z < 256 := by have := UInt8.toNat_lt (s[3]'(by omega)); omega
            have zw : wrap64 z = z := by unfold wrap64; omega
            have HV := Lib.hid hv
            clear hu hv
            go_wp2_with fail
            refine wp_loop_rounds 3 ?_
            rw [rounds_succ]
            go_wp2_with fail
            refine (digit_any _ _ _).mono ?_
            rintro e w4 ⟨rfl, rfl⟩
            rw [HU.out]
            go_wp2_with fail
            rw [rounds_succ]
            go_wp2_with fail
            refine (digit_any _ _ _).mono ?_
            rintro e w4 ⟨rfl, rfl⟩
            rw [HV.out]
            go_wp2_with fail
            rw [rounds_succ]
            go_wp2_with fail
            refine (awake_any _).mono ?_
            rintro e w3 ⟨rfl, HB1⟩
            replace HB := Lib.hid (bNext HB.out HB1)
            clear HB1
            go_wp2_with fail
            go_ret
            exact ⟨rfl, HB.out⟩
    · have HED := Lib.hid (esc_out (c := d) (by rw [chr_no]; omega))
      have td0 : decide (0 ≤ d) = true := by simp; omega
      have td1 : decide (d ≤ 255) = false := by simp; omega
      clear hd
      go_enter Tryd.func9, Tryd.ntmps9
      go_wp2_with fail
      refine (escape_any _ _ HD.out).mono ?_
      rintro e w1 ⟨rfl, HB⟩
      rw [HEC.out]
      replace HB := Lib.hid HB
      go_wp2_with fail
      refine (escape_any _ _ (HD.out.below HB.out)).mono ?_
      rintro e w2 ⟨rfl, HB1⟩
      rw [HED.out]
      replace HB := Lib.hid (bNext HB.out HB1)
      clear HB1
      go_wp2_with fail
      go_loop [9] (fun i => ∃ k : Nat, k ≤ s.size ∧ i = .int .i64 (k : Int)) (fun i => s.size - (intOf i).toNat)
      case atStart => exact ⟨0, by omega, rfl⟩
      case round =>
        obtain ⟨k, hk, rfl⟩ := hrel
        by_cases hlt : k < s.size
        · obtain ⟨p1, p2⟩ := prnt_at HPR.out k hlt
          have p3 : decide ((s[k].toNat : Int) < 32) = false := by simp; omega
          have p4 : decide (126 < (s[k].toNat : Int)) = false := by simp; omega
          go_wp2_with fail
          exact ⟨⟨k + 1, by omega, by go_num⟩, by simp [intOf]; omega⟩
        · obtain rfl : k = s.size := by omega
          rcases hway with ⟨hz, x0⟩ | ⟨hz, y, x0, x1, hu⟩ | ⟨hz, y, x0, x1, x2, x3, hu⟩ | ⟨hz, y, z, q, r, x0, x1, x2, x3, x4, hu, hv, hqr, q0, q1⟩
          · go_wp2_with fail
            refine (awake_any _).mono ?_
            rintro e w3 ⟨rfl, HB1⟩
            replace HB := Lib.hid (bNext HB.out HB1)
            clear HB1
            go_wp2_with fail
            go_ret
            exact ⟨rfl, HB.out⟩
          · have HU := Lib.hid hu
            have y0 : 0 ≤ y := by omega
            have y1 : y < 256 := by have := UInt8.toNat_lt (s[1]'(by omega)); omega
            have yw : wrap64 y = y := by unfold wrap64; omega
            clear hu
            go_wp2_with fail
            refine (unescape_any _ _).mono ?_
            rintro e w4 ⟨rfl, rfl⟩
            rw [HU.out]
            go_wp2_with fail
            refine (awake_any _).mono ?_
            rintro e w3 ⟨rfl, HB1⟩
            replace HB := Lib.hid (bNext HB.out HB1)
            clear HB1
            go_wp2_with fail
            go_ret
            exact ⟨rfl, HB.out⟩
          · have HU := Lib.hid hu
            have y0 : 0 ≤ y := by omega
            have y1 : y < 256 := by have := UInt8.toNat_lt (s[2]'(by omega)); omega
            have yw : wrap64 y = y := by unfold wrap64; omega
            clear hu
            go_wp2_with fail
            refine wp_loop_rounds 2 ?_
            rw [rounds_succ]
            go_wp2_with fail
            refine (digit_any _ _ _).mono ?_
            rintro e w4 ⟨rfl, rfl⟩
            rw [HU.out]
            go_wp2_with fail
            rw [rounds_succ]
            go_wp2_with fail
            refine (awake_any _).mono ?_
            rintro e w3 ⟨rfl, HB1⟩
            replace HB := Lib.hid (bNext HB.out HB1)
            clear HB1
            go_wp2_with fail
            go_ret
            exact ⟨rfl, HB.out⟩
          · have HU := Lib.hid hu
            have y0 : 0 ≤ y := by omega
            have y1 : y < 256 := by have := UInt8.toNat_lt (s[2]'(by omega)); omega
            have yw : wrap64 y = y := by unfold wrap64; omega
            have z0 : 0 ≤ z := by omega
            have z1 : z < 256 := by have := UInt8.toNat_lt (s[3]'(by omega)); omega
            have zw : wrap64 z = z := by unfold wrap64; omega
            have HV := Lib.hid hv
            clear hu hv
            go_wp2_with fail
            refine wp_loop_rounds 3 ?_
            rw [rounds_succ]
            go_wp2_with fail
            refine (digit_any _ _ _).mono ?_
            rintro e w4 ⟨rfl, rfl⟩
            rw [HU.out]
            go_wp2_with fail
            rw [rounds_succ]
            go_wp2_with fail
            refine (digit_any _ _ _).mono ?_
            rintro e w4 ⟨rfl, rfl⟩
            rw [HV.out]
            go_wp2_with fail
            rw [rounds_succ]
            go_wp2_with fail
            refine (awake_any _).mono ?_
            rintro e w3 ⟨rfl, HB1⟩
            replace HB := Lib.hid (bNext HB.out HB1)
            clear HB1
            go_wp2_with fail
            go_ret
            exact ⟨rfl, HB.out⟩
    · have HED := HEC
      go_enter Tryd.func9, Tryd.ntmps9
      go_wp2_with fail
      refine (escape_any _ _ HD.out).mono ?_
      rintro e w1 ⟨rfl, HB⟩
      rw [HEC.out]
      replace HB := Lib.hid HB
      go_wp2_with fail
      refine (escape_any _ _ (HD.out.below HB.out)).mono ?_
      rintro e w2 ⟨rfl, HB1⟩
      rw [HED.out]
      replace HB := Lib.hid (bNext HB.out HB1)
      clear HB1
      go_wp2_with fail
      go_loop [9] (fun i => ∃ k : Nat, k ≤ s.size ∧ i = .int .i64 (k : Int)) (fun i => s.size - (intOf i).toNat)
      case atStart => exact ⟨0, by omega, rfl⟩
      case round =>
        obtain ⟨k, hk, rfl⟩ := hrel
        by_cases hlt : k < s.size
        · obtain ⟨p1, p2⟩ := prnt_at HPR.out k hlt
          have p3 : decide ((s[k].toNat : Int) < 32) = false := by simp; omega
          have p4 : decide (126 < (s[k].toNat : Int)) = false := by simp; omega
          go_wp2_with fail
          exact ⟨⟨k + 1, by omega, by go_num⟩, by simp [intOf]; omega⟩
        · obtain rfl : k = s.size := by omega
          rcases hway with ⟨hz, x0⟩ | ⟨hz, y, x0, x1, hu⟩ | ⟨hz, y, x0, x1, x2, x3, hu⟩ | ⟨hz, y, z, q, r, x0, x1, x2, x3, x4, hu, hv, hqr, q0, q1⟩
          · go_wp2_with fail
            refine (awake_any _).mono ?_
            rintro e w3 ⟨rfl, HB1⟩
            replace HB := Lib.hid (bNext HB.out HB1)
            clear HB1
            go_wp2_with fail
            go_ret
            exact ⟨rfl, HB.out⟩
          · have HU := Lib.hid hu
            have y0 : 0 ≤ y := by omega
            have y1 : y < 256 := by have := UInt8.toNat_lt (s[1]'(by omega)); omega
            have yw : wrap64 y = y := by unfold wrap64; omega
            clear hu
            go_wp2_with fail
            refine (unescape_any _ _).mono ?_
            rintro e w4 ⟨rfl, rfl⟩
            rw [HU.out]
            go_wp2_with fail
            refine (awake_any _).mono ?_
            rintro e w3 ⟨rfl, HB1⟩
            replace HB := Lib.hid (bNext HB.out HB1)
            clear HB1
            go_wp2_with fail
            go_ret
            exact ⟨rfl, HB.out⟩
          · have HU := Lib.hid hu
            have y0 : 0 ≤ y := by omega
            have y1 : y < 256 := by have := UInt8.toNat_lt (s[2]'(by omega)); omega
            have yw : wrap64 y = y := by unfold wrap64; omega
            clear hu
            go_wp2_with fail
            refine wp_loop_rounds 2 ?_
            rw [rounds_succ]
            go_wp2_with fail
            refine (digit_any _ _ _).mono ?_
            rintro e w4 ⟨rfl, rfl⟩
            rw [HU.out]
            go_wp2_with fail
            rw [rounds_succ]
            go_wp2_with fail
            refine (awake_any _).mono ?_
            rintro e w3 ⟨rfl, HB1⟩
            replace HB := Lib.hid (bNext HB.out HB1)
            clear HB1
            go_wp2_with fail
            go_ret
            exact ⟨rfl, HB.out⟩
          · have HU := Lib.hid hu
            have y0 : 0 ≤ y := by omega
            have y1 : y < 256 := by have := UInt8.toNat_lt (s[2]'(by omega)); omega
            have yw : wrap64 y = y := by unfold wrap64; omega
            have z0 : 0 ≤ z := by omega
            have z1 : z < 256 := by have := UInt8.toNat_lt (s[3]'(by omega)); omega
            have zw : wrap64 z = z := by unfold wrap64; omega
            have HV := Lib.hid hv
            clear hu hv
            go_wp2_with fail
            refine wp_loop_rounds 3 ?_
            rw [rounds_succ]
            go_wp2_with fail
            refine (digit_any _ _ _).mono ?_
            rintro e w4 ⟨rfl, rfl⟩
            rw [HU.out]
            go_wp2_with fail
            rw [rounds_succ]
            go_wp2_with fail
            refine (digit_any _ _ _).mono ?_
            rintro e w4 ⟨rfl, rfl⟩
            rw [HV.out]
            go_wp2_with fail
            rw [rounds_succ]
            go_wp2_with fail
            refine (awake_any _).mono ?_
            rintro e w3 ⟨rfl, HB1⟩
            replace HB := Lib.hid (bNext HB.out HB1)
            clear HB1
            go_wp2_with fail
            go_ret
            exact ⟨rfl, HB.out⟩
    · have hd : 0 ≤ d ∧ d ≤ 255 := ⟨hd1, hd2⟩
      have HCD := Lib.hid (chr_iff.2 hd)
      obtain ⟨t, ht⟩ : ∃ t, (esc d).1 = t := ⟨_, rfl⟩
      have HED := Lib.hid (show esc d = (t, true) from Prod.ext ht (esc_all HCD.out).1)
      have hst : ¬ s.toList = t.toList := by
        intro h
        have h2 : s = t := by
          rw [ByteArray.toList_eq, ByteArray.toList_eq] at h
          exact ByteArray.ext (Array.toList_inj.1 h)
        rw [← hs, ← ht] at h2
        exact hne ((esc_inj HCC.out HCD.out).1 h2).symm
      have hcd : (c == d) = false := by simp; omega
      have hcd2 : ¬ c = d := by omega
      have hst2 : (s.toList == t.toList) = false := by rw [beq_eq_false_iff_ne]; exact hst
      clear ht
      have td0 : decide (0 ≤ d) = true := by simp; omega
      have td1 : decide (d ≤ 255) = true := by simp; omega
      clear hd hd1 hd2 hne
      go_enter Tryd.func9, Tryd.ntmps9
      go_wp2_with fail
      refine (escape_any _ _ HD.out).mono ?_
      rintro e w1 ⟨rfl, HB⟩
      rw [HEC.out]
      replace HB := Lib.hid HB
      go_wp2_with fail
      refine (escape_any _ _ (HD.out.below HB.out)).mono ?_
      rintro e w2 ⟨rfl, HB1⟩
      rw [HED.out]
      replace HB := Lib.hid (bNext HB.out HB1)
      clear HB1
      go_wp2_with fail
      go_loop [9] (fun i => ∃ k : Nat, k ≤ s.size ∧ i = .int .i64 (k : Int)) (fun i => s.size - (intOf i).toNat)
      case atStart => exact ⟨0, by omega, rfl⟩
      case round =>
        obtain ⟨k, hk, rfl⟩ := hrel
        by_cases hlt : k < s.size
        · obtain ⟨p1, p2⟩ := prnt_at HPR.out k hlt
          have p3 : decide ((s[k].toNat : Int) < 32) = false := by simp; omega
          have p4 : decide (126 < (s[k].toNat : Int)) = false := by simp; omega
          go_wp2_with fail
          exact ⟨⟨k + 1, by omega, by go_num⟩, by simp [intOf]; omega⟩
        · obtain rfl : k = s.size := by omega
          rcases hway with ⟨hz, x0⟩ | ⟨hz, y, x0, x1, hu⟩ | ⟨hz, y, x0, x1, x2, x3, hu⟩ | ⟨hz, y, z, q, r, x0, x1, x2, x3, x4, hu, hv, hqr, q0, q1⟩
          · go_wp2_with fail
            refine (awake_any _).mono ?_
            rintro e w3 ⟨rfl, HB1⟩
            replace HB := Lib.hid (bNext HB.out HB1)
            clear HB1
            go_wp2_with fail
            go_ret
            exact ⟨rfl, HB.out⟩
          · have HU := Lib.hid hu
            have y0 : 0 ≤ y := by omega
            have y1 : y < 256 := by have := UInt8.toNat_lt (s[1]'(by omega)); omega
            have yw : wrap64 y = y := by unfold wrap64; omega
            clear hu
            go_wp2_with fail
            refine (unescape_any _ _).mono ?_
            rintro e w4 ⟨rfl, rfl⟩
            rw [HU.out]
            go_wp2_with fail
            refine (awake_any _).mono ?_
            rintro e w3 ⟨rfl, HB1⟩
            replace HB := Lib.hid (bNext HB.out HB1)
            clear HB1
            go_wp2_with fail
            go_ret
            exact ⟨rfl, HB.out⟩
          · have HU := Lib.hid hu
            have y0 : 0 ≤ y := by omega
            have y1 : y < 256 := by have := UInt8.toNat_lt (s[2]'(by omega)); omega
            have yw : wrap64 y = y := by unfold wrap64; omega
            clear hu
            go_wp2_with fail
            refine wp_loop_rounds 2 ?_
            rw [rounds_succ]
            go_wp2_with fail
            refine (digit_any _ _ _).mono ?_
            rintro e w4 ⟨rfl, rfl⟩
            rw [HU.out]
            go_wp2_with fail
            rw [rounds_succ]
            go_wp2_with fail
            refine (awake_any _).mono ?_
            rintro e w3 ⟨rfl, HB1⟩
            replace HB := Lib.hid (bNext HB.out HB1)
            clear HB1
            go_wp2_with fail
            go_ret
            exact ⟨rfl, HB.out⟩
          · have HU := Lib.hid hu
            have y0 : 0 ≤ y := by omega
            have y1 : y < 256 := by have := UInt8.toNat_lt (s[2]'(by omega)); omega
            have yw : wrap64 y = y := by unfold wrap64; omega
            have z0 : 0 ≤ z := by omega
            have z1 : z < 256 := by have := UInt8.toNat_lt (s[3]'(by omega)); omega
            have zw : wrap64 z = z := by unfold wrap64; omega
            have HV := Lib.hid hv
            clear hu hv
            go_wp2_with fail
            refine wp_loop_rounds 3 ?_
            rw [rounds_succ]
            go_wp2_with fail
            refine (digit_any _ _ _).mono ?_
            rintro e w4 ⟨rfl, rfl⟩
            rw [HU.out]
            go_wp2_with fail
            rw [rounds_succ]
            go_wp2_with fail
            refine (digit_any _ _ _).mono ?_
            rintro e w4 ⟨rfl, rfl⟩
            rw [HV.out]
            go_wp2_with fail
            rw [rounds_succ]
            go_wp2_with fail
            refine (awake_any _).mono ?_
            rintro e w3 ⟨rfl, HB1⟩
            replace HB := Lib.hid (bNext HB.out HB1)
            clear HB1
            go_wp2_with fail
            go_ret
            exact ⟨rfl, HB.out⟩
end Go.Proofs.YtdhibbphjnoikaaDoor
