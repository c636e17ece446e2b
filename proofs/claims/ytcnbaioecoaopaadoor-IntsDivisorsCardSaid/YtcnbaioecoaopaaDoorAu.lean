/-
  The walks of the laws IntsShifts and IntsPowers.
-/
import Derived.Test.YtcnbaioecoaopaaDoorAt
import Derived.Outline
namespace Go.Proofs.YtcnbaioecoaopaaDoor
open Go.RowKit
def nL : ByteArray := ⟨#[60, 60]⟩
def nG : ByteArray := ⟨#[62, 62]⟩
def nP : ByteArray := ⟨#[94]⟩
def nT : ByteArray := ⟨#[42]⟩
theorem bin_l (a b : Int) : binS nL a b = shl a b := by simp [binS, eqS_data, nL]
theorem bin_g (a b : Int) : binS nG a b = shr a b := by simp [binS, eqS_data, nG]
theorem bin_p (a b : Int) : binS nP a b = pw a b := by simp [binS, eqS_data, nP]
theorem bin_t (a b : Int) : binS nT a b = ovf (a * b) := by simp [binS, eqS_data, nT]
theorem ediv_pow_in {a : Int} (h : inR a) (k : Nat) : inR (a / 2 ^ k) := by
  induction k with
  | zero => rw [Int.pow_zero, Int.ediv_one]; exact h
  | succ k ih => rw [← div_pow]; exact ediv_in ih
theorem shifts_und (a b c : Int) (ha : inR a) (hb : inR b) (h : b < 0 ∨ 63 < b) (w : World) (ht : pow10At w) : Calls Tryd.prog 8 #[.int .i64 a, .int .i64 b, .int .i64 c] w fun e w' => e = .returned (.bool true) ∧ Below w.heap.size w w' := by
  have HT := Lib.hid ht
  have HA := Lib.hid ha
  have HBB := Lib.hid hb
  have H1 := Lib.hid (show binS nL a b = (0, 12) by rw [bin_l]; exact shl_und h)
  have H2 := Lib.hid (show binS nG a b = (0, 12) by rw [bin_g]; exact shr_und h)
  clear ht ha hb
  rcases h with h | h
  · go_enter Tryd.func8, Tryd.ntmps8
    go_wp2_with fail
    refine (example_any _ HT.out).mono ?_
    rintro e v ⟨rfl, hb⟩
    have HB := Lib.hid hb
    clear hb
    go_wp2_with fail
    refine (Binary_any nL a b HA.out HBB.out _).mono ?_
    rintro e v1 ⟨rfl, hb⟩
    rw [H1.out, pair]
    have HB := Lib.hid (HB.out.trans (hb.mono HB.out.size))
    clear hb
    go_wp2_with fail
    refine (Binary_any nG a b HA.out HBB.out _).mono ?_
    rintro e v2 ⟨rfl, hb⟩
    rw [H2.out, pair]
    have HB := Lib.hid (HB.out.trans (hb.mono HB.out.size))
    clear hb
    go_wp2_with fail
    go_ret
    exact ⟨rfl, HB.out⟩
  · have h2 : decide (b < 0) = false := by simp; omega
    go_enter Tryd.func8, Tryd.ntmps8
    go_wp2_with fail
    refine (example_any _ HT.out).mono ?_
    rintro e v ⟨rfl, hb⟩
    have HB := Lib.hid hb
    clear hb
    go_wp2_with fail
    refine (Binary_any nL a b HA.out HBB.out _).mono ?_
    rintro e v1 ⟨rfl, hb⟩
    rw [H1.out, pair]
    have HB := Lib.hid (HB.out.trans (hb.mono HB.out.size))
    clear hb
    go_wp2_with fail
    refine (Binary_any nG a b HA.out HBB.out _).mono ?_
    rintro e v2 ⟨rfl, hb⟩
    rw [H2.out, pair]
    have HB := Lib.hid (HB.out.trans (hb.mono HB.out.size))
    clear hb
    go_wp2_with fail
    go_ret
    exact ⟨rfl, HB.out⟩
set_option maxHeartbeats 1000000 in
theorem shifts_main (a b c l1 l2 r t : Int) (ha : inR a) (hb0 : 0 ≤ b) (hb1 : b ≤ 63) (hc : inR c) (hl : inR l1) (hr : inR r)
    (H1 : Hid (binS nL a b = (l1, l2))) (H2 : Hid (binS nG a b = (r, 0)))
    (hl2 : (l2 == 0) = true ∧ (l2 != 0) = false ∧ binS nG l1 b = (a, 0) ∨ (l2 == 0) = false ∧ (l2 != 0) = true ∧ (l2 != 10) = false)
    (H3 : Hid (0 ≤ c → c ≤ 63 - b → binS nG r c = (t, 0) ∧ binS nG a (b + c) = (t, 0)))
    (w : World) (ht : pow10At w) : Calls Tryd.prog 8 #[.int .i64 a, .int .i64 b, .int .i64 c] w fun e w' => e = .returned (.bool true) ∧ Below w.heap.size w w' := by
  have HT := Lib.hid ht
  have HA := Lib.hid ha
  have HC := Lib.hid hc
  have HLR := Lib.hid hl
  have HRR := Lib.hid hr
  have HBB := Lib.hid (show inR b by unfold inR; omega)
  have d1 : decide (b < 0) = false := by simp; omega
  have d2 : decide (63 < b) = false := by simp; omega
  clear ht ha hc hl hr
  go_enter Tryd.func8, Tryd.ntmps8
  go_wp2_with fail
  refine (example_any _ HT.out).mono ?_
  rintro e v ⟨rfl, hb⟩
  have HB := Lib.hid hb
  clear hb
  go_wp2_with fail
  refine (Binary_any nL a b HA.out HBB.out _).mono ?_
  rintro e v1 ⟨rfl, hb⟩
  rw [H1.out, pair]
  have HB := Lib.hid (HB.out.trans (hb.mono HB.out.size))
  clear hb
  go_wp2_with fail
  refine (Binary_any nG a b HA.out HBB.out _).mono ?_
  rintro e v2 ⟨rfl, hb⟩
  rw [H2.out, pair]
  have HB := Lib.hid (HB.out.trans (hb.mono HB.out.size))
  clear hb
  rcases hl2 with ⟨e1, e2, e3⟩ | ⟨e1, e2, e3⟩
  · have H3b := Lib.hid e3
    clear e3
    go_wp2_with fail
    refine (two_any nG l1 b HLR.out HBB.out H3b.out _).mono ?_
    rintro e v4 ⟨rfl, hb⟩
    have HB := Lib.hid (HB.out.trans (hb.mono HB.out.size))
    clear hb
    by_cases hc0 : c < 0
    · go_wp2_with fail
      go_ret
      exact ⟨rfl, HB.out⟩
    have d3 : decide (c < 0) = false := by simp; omega
    by_cases hc1 : 63 - b < c
    · go_wp2_with fail
      go_ret
      exact ⟨rfl, HB.out⟩
    have d4 : decide (63 - b < c) = false := by simp; omega
    have hcc := H3.out (by omega) (by omega)
    have H4 := Lib.hid hcc.1
    have H5 := Lib.hid hcc.2
    have HBC := Lib.hid (show inR (b + c) by unfold inR; omega)
    have c0 : 0 ≤ c := by omega
    have c1 : c ≤ 63 := by omega
    clear hcc hc0 hc1
    go_wp2_with fail
    refine (two_any nG r c HRR.out HC.out H4.out _).mono ?_
    rintro e v5 ⟨rfl, hb⟩
    have HB := Lib.hid (HB.out.trans (hb.mono HB.out.size))
    clear hb
    go_wp2_with fail
    refine (two_any nG a (b + c) HA.out HBC.out H5.out _).mono ?_
    rintro e v6 ⟨rfl, hb⟩
    have HB := Lib.hid (HB.out.trans (hb.mono HB.out.size))
    clear hb
    go_wp2_with fail
    go_ret
    exact ⟨rfl, HB.out⟩
  · by_cases hc0 : c < 0
    · go_wp2_with fail
      go_ret
      exact ⟨rfl, HB.out⟩
    have d3 : decide (c < 0) = false := by simp; omega
    by_cases hc1 : 63 - b < c
    · go_wp2_with fail
      go_ret
      exact ⟨rfl, HB.out⟩
    have d4 : decide (63 - b < c) = false := by simp; omega
    have hcc := H3.out (by omega) (by omega)
    have H4 := Lib.hid hcc.1
    have H5 := Lib.hid hcc.2
    have HBC := Lib.hid (show inR (b + c) by unfold inR; omega)
    have c0 : 0 ≤ c := by omega
    have c1 : c ≤ 63 := by omega
    clear hcc hc0 hc1
    go_wp2_with fail
    refine (two_any nG r c HRR.out HC.out H4.out _).mono ?_
    rintro e v5 ⟨rfl, hb⟩
    have HB := Lib.hid (HB.out.trans (hb.mono HB.out.size))
    clear hb
    go_wp2_with fail
    refine (two_any nG a (b + c) HA.out HBC.out H5.out _).mono ?_
    rintro e v6 ⟨rfl, hb⟩
    have HB := Lib.hid (HB.out.trans (hb.mono HB.out.size))
    clear hb
    go_wp2_with fail
    go_ret
    exact ⟨rfl, HB.out⟩
theorem law_shifts (a b c : Int) (ha : inR a) (hb : inR b) (hc : inR c) (w : World) (ht : pow10At w) : Calls Tryd.prog 8 #[.int .i64 a, .int .i64 b, .int .i64 c] w fun e w' => e = .returned (.bool true) ∧ Below w.heap.size w w' := by
  by_cases h : b < 0 ∨ 63 < b
  · exact shifts_und a b c ha hb h w ht
  have h0 : 0 ≤ b := by omega
  have h1 : b ≤ 63 := by omega
  have hk : ((b.toNat : Nat) : Int) = b := by omega
  have ht2 := pow_bound (k := b.toNat) (by omega)
  have hr : shr a b = (a / 2 ^ b.toNat, 0) := shr_in hk h1
  have hL : shl a b = ovf (a * 2 ^ b.toNat) := by unfold shl; rw [if_neg h]
  have hb2 : shr (a * 2 ^ b.toNat) b = (a, 0) := by rw [shr_in hk h1, Int.mul_ediv_cancel _ (by omega)]
  have hcc : 0 ≤ c → c ≤ 63 - b → binS nG (a / 2 ^ b.toNat) c = (a / 2 ^ b.toNat / 2 ^ c.toNat, 0) ∧ binS nG a (b + c) = (a / 2 ^ b.toNat / 2 ^ c.toNat, 0) := fun c0 c1 => by
    rw [bin_g, bin_g, shr_in (k := c.toNat) (by omega) (by omega), shr_in (k := b.toNat + c.toNat) (by omega) (by omega)]
    refine ⟨rfl, ?_⟩
    rw [Int.pow_add, Int.ediv_ediv_of_nonneg (Int.pow_nonneg (by decide))]
  by_cases hin : inR (a * 2 ^ b.toNat)
  · refine shifts_main a b c (a * 2 ^ b.toNat) 0 (a / 2 ^ b.toNat) _ ha h0 h1 hc hin (ediv_pow_in ha _) (Lib.hid (by rw [bin_l, hL, ovf_in hin])) (Lib.hid (by rw [bin_g, hr])) (.inl ⟨rfl, rfl, by rw [bin_g, hb2]⟩) (Lib.hid hcc) w ht
  · refine shifts_main a b c 0 10 (a / 2 ^ b.toNat) _ ha h0 h1 hc (by decide) (ediv_pow_in ha _) (Lib.hid (by rw [bin_l, hL, ovf_out hin])) (Lib.hid (by rw [bin_g, hr])) (.inr ⟨rfl, rfl, rfl⟩) (Lib.hid hcc) w ht
theorem pw_nonneg {a b : Int} (h : 0 ≤ b) : pw a b = ovf (a ^ b.toNat) := by
  unfold pw
  by_cases h1 : a = 1 ∨ b = 0
  · rw [if_pos h1]
    rcases h1 with rfl | rfl
    · rw [Int.one_pow]; rfl
    · rw [Int.toNat_zero, Int.pow_zero]; rfl
  rw [if_neg h1]
  by_cases h2 : a = -1
  · subst h2
    rw [if_pos rfl]
    have hp : ∀ k : Nat, (-1 : Int) ^ k = if k % 2 = 0 then 1 else -1 := fun k => by
      induction k with
      | zero => rfl
      | succ k ih =>
        rw [Int.pow_succ, ih]
        by_cases h : k % 2 = 0
        · rw [if_pos h, if_neg (by omega)]; rfl
        · rw [if_neg h, if_pos (by omega)]; rfl
    rw [hp]
    by_cases h : b % 2 = 0
    · rw [if_pos h, if_pos (by omega)]; rfl
    · rw [if_neg h, if_neg (by omega)]; rfl
  rw [if_neg h2]
  by_cases h3 : a = 0
  · subst h3
    rw [if_pos rfl, if_neg (by omega), Int.zero_pow (by omega)]; rfl
  · rw [if_neg h3, if_neg (by omega)]
theorem pow_in {a : Int} {j k : Nat} (hj : j ≤ k) (h : inR (a ^ k)) : inR (a ^ j) := by
  by_cases h2 : 2 ≤ a.natAbs
  · exact Classical.byContradiction fun ho => pow_out h2 hj ho h
  · have hl : (a ^ j).natAbs ≤ 1 := by
      rw [Int.natAbs_pow]
      have := Nat.pow_le_pow_left (show a.natAbs ≤ 1 by omega) j
      rwa [Nat.one_pow] at this
    unfold inR; omega
set_option maxHeartbeats 1000000 in
theorem powers_ok (a m n x y p : Int) (ha : inR a) (hm0 : 0 ≤ m) (hm1 : m ≤ 255) (hn0 : 0 ≤ n) (hn1 : n ≤ 255) (hx : inR x) (hy : inR y)
    (H1 : Hid (binS nP a (m + n) = (p, 0))) (H2 : Hid (binS nP a m = (x, 0))) (H3 : Hid (binS nP a n = (y, 0))) (H4 : Hid (binS nT x y = (p, 0)))
    (w : World) (ht : pow10At w) : Calls Tryd.prog 9 #[.int .i64 a, .int .u8 m, .int .u8 n] w fun e w' => e = .returned (.bool true) ∧ Below w.heap.size w w' := by
  have HT := Lib.hid ht
  have HA := Lib.hid ha
  have HX := Lib.hid hx
  have HY := Lib.hid hy
  have HM := Lib.hid (show inR m by unfold inR; omega)
  have HN := Lib.hid (show inR n by unfold inR; omega)
  have HMN := Lib.hid (show inR (m + n) by unfold inR; omega)
  clear ht ha hx hy
  go_enter Tryd.func9, Tryd.ntmps9
  go_wp2_with fail
  refine (example_any _ HT.out).mono ?_
  rintro e v ⟨rfl, hb⟩
  have HB := Lib.hid hb
  clear hb
  go_wp2_with fail
  refine (two_any nP a (m + n) HA.out HMN.out H1.out _).mono ?_
  rintro e v1 ⟨rfl, hb⟩
  have HB := Lib.hid (HB.out.trans (hb.mono HB.out.size))
  clear hb
  go_wp2_with fail
  refine (two_any nP a m HA.out HM.out H2.out _).mono ?_
  rintro e v2 ⟨rfl, hb⟩
  have HB := Lib.hid (HB.out.trans (hb.mono HB.out.size))
  clear hb
  go_wp2_with fail
  refine (two_any nP a n HA.out HN.out H3.out _).mono ?_
  rintro e v3 ⟨rfl, hb⟩
  have HB := Lib.hid (HB.out.trans (hb.mono HB.out.size))
  clear hb
  go_wp2_with fail
  refine (two_any nT x y HX.out HY.out H4.out _).mono ?_
  rintro e v4 ⟨rfl, hb⟩
  have HB := Lib.hid (HB.out.trans (hb.mono HB.out.size))
  clear hb
  go_wp2_with fail
  go_ret
  exact ⟨rfl, HB.out⟩
theorem powers_no (a m n k : Int) (ha : inR a) (hm0 : 0 ≤ m) (hm1 : m ≤ 255) (hn0 : 0 ≤ n) (hn1 : n ≤ 255) (hk : (k == 0) = false)
    (H1 : Hid (binS nP a (m + n) = (0, k)))
    (w : World) (ht : pow10At w) : Calls Tryd.prog 9 #[.int .i64 a, .int .u8 m, .int .u8 n] w fun e w' => e = .returned (.bool true) ∧ Below w.heap.size w w' := by
  have HT := Lib.hid ht
  have HA := Lib.hid ha
  have HMN := Lib.hid (show inR (m + n) by unfold inR; omega)
  clear ht ha
  go_enter Tryd.func9, Tryd.ntmps9
  go_wp2_with fail
  refine (example_any _ HT.out).mono ?_
  rintro e v ⟨rfl, hb⟩
  have HB := Lib.hid hb
  clear hb
  go_wp2_with fail
  refine (two_any nP a (m + n) HA.out HMN.out H1.out _).mono ?_
  rintro e v1 ⟨rfl, hb⟩
  have HB := Lib.hid (HB.out.trans (hb.mono HB.out.size))
  clear hb
  go_wp2_with fail
  go_ret
  exact ⟨rfl, HB.out⟩
theorem law_powers (a m n : Int) (ha : inR a) (hm : 0 ≤ m ∧ m ≤ 255) (hn : 0 ≤ n ∧ n ≤ 255) (w : World) (ht : pow10At w) : Calls Tryd.prog 9 #[.int .i64 a, .int .u8 m, .int .u8 n] w fun e w' => e = .returned (.bool true) ∧ Below w.heap.size w w' := by
  have e0 : (m + n).toNat = m.toNat + n.toNat := by omega
  by_cases hin : inR (a ^ (m.toNat + n.toNat))
  · have h1 := pow_in (j := m.toNat) (by omega) hin
    have h2 := pow_in (j := n.toNat) (by omega) hin
    exact powers_ok a m n _ _ _ ha hm.1 hm.2 hn.1 hn.2 h1 h2 (Lib.hid (by rw [bin_p, pw_nonneg (by omega), e0, ovf_in hin])) (Lib.hid (by rw [bin_p, pw_nonneg hm.1, ovf_in h1])) (Lib.hid (by rw [bin_p, pw_nonneg hn.1, ovf_in h2]))
      (Lib.hid (by rw [bin_t, ← Int.pow_add, ovf_in hin])) w ht
  · exact powers_no a m n 10 ha hm.1 hm.2 hn.1 hn.2 rfl (Lib.hid (by rw [bin_p, pw_nonneg (by omega), e0, ovf_out hin])) w ht
end Go.Proofs.YtcnbaioecoaopaaDoor
