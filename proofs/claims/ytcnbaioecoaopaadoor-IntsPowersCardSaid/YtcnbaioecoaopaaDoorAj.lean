/-
  The walks of the reference's floored quotient and remainder, shifts, powers and divisors.
-/
import Derived.Test.YtcnbaioecoaopaaDoorAi
namespace Go.Proofs.YtcnbaioecoaopaaDoor
open Go.RowKit
theorem flr_ok {a b : Int} (hb : b ≠ 0) (h : ¬ (a = -9223372036854775808 ∧ b = -1)) : flr a b = (Int.tdiv a b - (if off a b then 1 else 0), 0) := by
  unfold flr; rw [if_neg hb, if_neg h]
theorem flr_wrap {a b : Int} (ha : inR a) (hb : b ≠ 0) (h : ¬ (a = -9223372036854775808 ∧ b = -1)) (ho : off a b) : inR (a.tdiv b - 1) := by
  have hq := tdiv_in ha hb h
  have h2 := Int.mul_tdiv_add_tmod a b
  unfold inR at *
  by_cases hz : a.tdiv b = -9223372036854775808
  · exfalso
    rw [hz] at h2
    unfold off at ho
    have h3 : (a.tmod b).natAbs < b.natAbs := by rw [Int.natAbs_tmod]; exact Nat.mod_lt _ (by omega)
    have h4 : (a.tmod b).natAbs ≤ a.natAbs := by rw [Int.natAbs_tmod]; exact Nat.mod_le _ _
    omega
  · omega
theorem rdiv_any (a b : Int) (ha : inR a) (hb : b ≠ 0) (w : World) :
    Calls Tryd.prog 37 #[.int .i64 a, .int .i64 b] w fun e w' => e = .returned (pair (flr a b)) ∧ w = w' := by
  go_enter Tryd.func37, Tryd.ntmps37
  go_wp2_with fail
  refine (rquot_any a b ha hb _).mono ?_
  rintro e w1 ⟨rfl, rfl⟩
  by_cases h1 : a = -9223372036854775808 ∧ b = -1
  · obtain ⟨rfl, rfl⟩ := h1
    rw [show quo (-9223372036854775808) (-1) = (0, 10) from by decide, pair]
    go_wp2_with fail
    go_ret2
    exact ⟨ret_pair rfl (by decide), rfl⟩
  · have hq := tdiv_in ha hb h1
    have hf := flr_ok hb h1
    have hw := fun h => flr_wrap ha hb h1 h
    rw [show quo a b = (a.tdiv b, 0) by unfold quo; rw [if_neg hb, ovf_in hq], pair]
    have HA := Lib.hid ha
    have HF := Lib.hid hf
    have HW := Lib.hid hw
    have HB := Lib.hid hb
    clear hq hf hw ha h1 hb
    go_wp2_with fail
    refine (rrem_any a b HA.out HB.out _).mono ?_
    rintro e w1 ⟨rfl, rfl⟩
    have hO : off a b ↔ (Int.tmod a b < 0 ∧ 0 < b) ∨ (0 < Int.tmod a b ∧ b < 0) := Iff.rfl
    have HO := Lib.hid hO
    clear hO
    generalize hr : a.tmod b = r at *
    have HR := Lib.hid hr
    clear hr
    have hb := HB.out
    rcases Int.lt_trichotomy b 0 with hb1 | hb1 | hb1
    · by_cases hr1 : 0 < r
      · have ho := HO.out.2 (.inr ⟨hr1, hb1⟩)
        have HW2 := Lib.hid (HW.out ho)
        have HE := Lib.hid (show flr a b = (a.tdiv b - 1, 0) by rw [HF.out, if_pos ho])
        clear ho hb
        go_wp2_with fail
        go_ret2
        exact ⟨ret_pair (wrap_in HW2.out) HE.out, rfl⟩
      · have HE := Lib.hid (show flr a b = (a.tdiv b, 0) by rw [HF.out, if_neg (fun h => by have := HO.out.1 h; omega), Int.sub_zero])
        clear hb
        go_wp2_with fail
        all_goals (go_ret2; exact ⟨ret_pair rfl HE.out, rfl⟩)
    · exact absurd hb1 hb
    · by_cases hr1 : r < 0
      · have ho := HO.out.2 (.inl ⟨hr1, hb1⟩)
        have HW2 := Lib.hid (HW.out ho)
        have HE := Lib.hid (show flr a b = (a.tdiv b - 1, 0) by rw [HF.out, if_pos ho])
        clear ho hb
        go_wp2_with fail
        go_ret2
        exact ⟨ret_pair (wrap_in HW2.out) HE.out, rfl⟩
      · have HE := Lib.hid (show flr a b = (a.tdiv b, 0) by rw [HF.out, if_neg (fun h => by have := HO.out.1 h; omega), Int.sub_zero])
        clear hb
        go_wp2_with fail
        all_goals (go_ret2; exact ⟨ret_pair rfl HE.out, rfl⟩)
theorem rmod_any (a b : Int) (ha : inR a) (hbr : inR b) (hb : b ≠ 0) (w : World) :
    Calls Tryd.prog 38 #[.int .i64 a, .int .i64 b] w fun e w' => e = .returned (.int .i64 (mdl a b).1) ∧ w = w' := by
  have hm := tmod_in (a := a) hbr hb
  have he : (mdl a b).1 = a.tmod b + (if off a b then b else 0) := by unfold mdl; rw [if_neg hb]
  have HA := Lib.hid ha
  have HB := Lib.hid hb
  have HE := Lib.hid he
  have HM := Lib.hid hm
  clear he hm ha hbr hb
  go_enter Tryd.func38, Tryd.ntmps38
  go_wp2_with fail
  refine (rrem_any a b HA.out HB.out _).mono ?_
  rintro e w1 ⟨rfl, rfl⟩
  have hO : off a b ↔ (Int.tmod a b < 0 ∧ 0 < b) ∨ (0 < Int.tmod a b ∧ b < 0) := Iff.rfl
  have HO := Lib.hid hO
  clear hO
  generalize hr : a.tmod b = r at *
  have HR := Lib.hid hr
  clear hr
  have hb := HB.out
  rcases Int.lt_trichotomy b 0 with hb1 | hb1 | hb1
  · by_cases hr1 : 0 < r
    · have ho := HO.out.2 (.inr ⟨hr1, hb1⟩)
      have HW2 := Lib.hid (show wrap64 (r + b) = (mdl a b).1 by have := HM.out.2; have e := HE.out; rw [if_pos ho] at this e; rw [e, wrap_in this])
      clear ho hb
      go_wp2_with fail
      go_ret
      exact ⟨ret_i64 HW2.out, rfl⟩
    · have HE2 := Lib.hid (show r = (mdl a b).1 by rw [HE.out, if_neg (fun h => by have := HO.out.1 h; omega), Int.add_zero])
      clear hb
      go_wp2_with fail
      all_goals (go_ret; exact ⟨ret_i64 HE2.out, rfl⟩)
  · exact absurd hb1 hb
  · by_cases hr1 : r < 0
    · have ho := HO.out.2 (.inl ⟨hr1, hb1⟩)
      have HW2 := Lib.hid (show wrap64 (r + b) = (mdl a b).1 by have := HM.out.2; have e := HE.out; rw [if_pos ho] at this e; rw [e, wrap_in this])
      clear ho hb
      go_wp2_with fail
      go_ret
      exact ⟨ret_i64 HW2.out, rfl⟩
    · have HE2 := Lib.hid (show r = (mdl a b).1 by rw [HE.out, if_neg (fun h => by have := HO.out.1 h; omega), Int.add_zero])
      clear hb
      go_wp2_with fail
      all_goals (go_ret; exact ⟨ret_i64 HE2.out, rfl⟩)
theorem tmod_two (b : Int) : b.tmod 2 = 0 ↔ b % 2 = 0 := by
  have h := Int.mul_tdiv_add_tmod b 2
  have h1 : (b.tmod 2).natAbs < 2 := by rw [Int.natAbs_tmod]; exact Nat.mod_lt _ (by omega)
  omega
theorem rpower_any (a b : Int) (ha : inR a) (hb : inR b) (w : World) : Calls Tryd.prog 33 #[.int .i64 a, .int .i64 b] w fun e w' => e = .returned (pair (pw a b)) ∧ w = w' := by
  by_cases h1 : a = 1
  · subst h1
    have HE := Lib.hid (pw_one b)
    clear ha hb
    go_enter Tryd.func33, Tryd.ntmps33
    go_wp2
    go_ret2
    exact ⟨ret_pair rfl HE.out, rfl⟩
  have e1 : (a == 1) = false := by simpa using h1
  by_cases hz : b = 0
  · subst hz
    have HE := Lib.hid (pw_zz a)
    clear ha hb h1
    go_enter Tryd.func33, Tryd.ntmps33
    go_wp2
    go_ret2
    exact ⟨ret_pair rfl HE.out, rfl⟩
  have ez : (b == 0) = false := by simpa using hz
  by_cases h2 : a = -1
  · subst h2
    have he := pw_neg b
    by_cases h3 : b % 2 = 0
    · have ht : (b.tmod 2 == 0) = true := by simpa using (tmod_two b).2 h3
      rw [if_pos h3] at he
      have HE := Lib.hid he
      clear ha hb h1 h3 he hz
      go_enter Tryd.func33, Tryd.ntmps33
      go_wp2
      go_ret2
      exact ⟨ret_pair rfl HE.out, rfl⟩
    · have ht : (b.tmod 2 == 0) = false := by simpa using fun h => h3 ((tmod_two b).1 h)
      rw [if_neg h3] at he
      have HE := Lib.hid he
      clear ha hb h1 h3 he hz
      go_enter Tryd.func33, Tryd.ntmps33
      go_wp2
      go_ret2
      exact ⟨ret_pair rfl HE.out, rfl⟩
  have e2 : (a == -1) = false := by simpa using h2
  by_cases h3 : a = 0
  · subst h3
    by_cases h4 : b < 0
    · have HE := Lib.hid (pw_zneg h4)
      clear ha hb h1 h2 hz
      go_enter Tryd.func33, Tryd.ntmps33
      go_wp2
      go_ret2
      exact ⟨ret_pair rfl HE.out, rfl⟩
    · have h5 : 0 < b := by omega
      have HE := Lib.hid (pw_zpos h5)
      clear ha hb h1 h2 h4 hz
      go_enter Tryd.func33, Tryd.ntmps33
      go_wp2
      go_ret2
      exact ⟨ret_pair rfl HE.out, rfl⟩
  have e3 : (a == 0) = false := by simpa using h3
  have h4 : 2 ≤ a.natAbs := by omega
  by_cases h5 : b < 0
  · have HE := Lib.hid (pw_und h4 h5)
    clear ha hb h1 h2 h3 hz
    go_enter Tryd.func33, Tryd.ntmps33
    go_wp2
    go_ret2
    exact ⟨ret_pair rfl HE.out, rfl⟩
  have HA := Lib.hid ha
  have H4 := Lib.hid h4
  have hb0 : 0 < b := by omega
  have hb1 : b ≤ 9223372036854775807 := hb.2
  clear ha hb h1 h2 h3 h4 h5 hz
  go_enter Tryd.func33, Tryd.ntmps33
  go_wp2
  go_loop [6, 7] (fun n i => ∃ k : Nat, (k : Int) ≤ b ∧ i = .int .i64 (k : Int) ∧ ∃ x : Int, n = .int .i64 x ∧ Hid (x = a ^ k) ∧ Hid (inR x)) (fun _ i => (b - (intOf i)).toNat)
  case atStart => exact ⟨0, by omega, rfl, 1, rfl, Lib.hid (Int.pow_zero a).symm, Lib.hid (by decide)⟩
  case round =>
    obtain ⟨k, hk, rfl, x, rfl, HX, HR⟩ := hrel
    by_cases h7 : (k : Int) < b
    · go_wp2_with fail
      refine (rmul_any x a HR.out HA.out _).mono ?_
      rintro e w1 ⟨rfl, rfl⟩
      by_cases h8 : inR (x * a)
      · rw [ovf_in h8, pair]
        have H8 := Lib.hid h8
        clear h8
        go_wp2_with fail
        exact ⟨⟨k + 1, by omega, by go_num, x * a, rfl, Lib.hid (by rw [HX.out, Int.pow_succ]), H8⟩, by simp [intOf]; omega⟩
      · rw [ovf_out h8, pair]
        have HP := Lib.hid (pw_out (b := b) (k := k + 1) H4.out (by omega) (by omega) (by rw [Int.pow_succ, ← HX.out]; exact h8))
        clear h8
        go_wp2_with fail
        go_ret2
        exact ⟨ret_pair rfl HP.out, rfl⟩
    · have HP := Lib.hid (pw_in (b := b) (k := k) H4.out (by omega) (by rw [← HX.out]; exact HR.out))
      go_wp2_with fail
      go_ret2
      exact ⟨ret_pair HX.out HP.out, rfl⟩
theorem mul_out {p t : Int} (ht : 1 ≤ t) (ho : ¬ inR p) : ¬ inR (p * t) := by
  unfold inR at *
  by_cases h : 9223372036854775807 < p
  · have : p * 1 ≤ p * t := Int.mul_le_mul_of_nonneg_left ht (by omega)
    omega
  · have h2 : p < -9223372036854775808 := by omega
    have : p * t ≤ p * 1 := Int.mul_le_mul_of_nonpos_left (by omega) ht
    omega
theorem half (a : Int) : flr a 2 = (a / 2, 0) := by
  have h := Int.mul_tdiv_add_tmod a 2
  have h1 : (a.tmod 2).natAbs < 2 := by rw [Int.natAbs_tmod]; exact Nat.mod_lt _ (by omega)
  have h2 : 0 ≤ a → 0 ≤ a.tmod 2 := fun h => Int.tmod_nonneg 2 h
  have h3 : a ≤ 0 → a.tmod 2 ≤ 0 := fun h => by have := Int.tmod_nonneg (a := -a) 2 (by omega); rw [Int.neg_tmod] at this; omega
  rw [flr_ok (by decide) (by omega)]
  congr 1
  by_cases hof : off a 2
  · rw [if_pos hof]; unfold off at hof; omega
  · rw [if_neg hof]; unfold off at hof; omega
theorem div_pow (a : Int) (i : Nat) : a / 2 ^ i / 2 = a / 2 ^ (i + 1) := by
  rw [Int.pow_succ, Int.ediv_ediv_of_nonneg (Int.pow_nonneg (by decide))]
theorem shl_out {a b : Int} {k : Nat} (hb : (k : Int) ≤ b) (h1 : b ≤ 63) (ho : ¬ inR (a * 2 ^ k)) : shl a b = (0, 10) := by
  unfold shl
  rw [if_neg (by omega)]
  refine ovf_out ?_
  have e : (2 : Int) ^ b.toNat = 2 ^ k * 2 ^ (b.toNat - k) := by rw [← Int.pow_add]; congr 1; omega
  rw [e, ← Int.mul_assoc]
  exact mul_out (pow_bound (by omega)).1 ho
theorem shl_in {a b : Int} {k : Nat} (hb : (k : Int) = b) (h1 : b ≤ 63) (ho : inR (a * 2 ^ k)) : shl a b = (a * 2 ^ k, 0) := by
  unfold shl
  rw [if_neg (by omega), show b.toNat = k by omega, ovf_in ho]
theorem shr_in {a b : Int} {k : Nat} (hb : (k : Int) = b) (h1 : b ≤ 63) : shr a b = (a / 2 ^ k, 0) := by
  unfold shr
  rw [if_neg (by omega), show b.toNat = k by omega]
theorem shr_und {a b : Int} (h : b < 0 ∨ 63 < b) : shr a b = (0, 12) := if_pos h
theorem shl_und {a b : Int} (h : b < 0 ∨ 63 < b) : shl a b = (0, 12) := if_pos h
theorem rleft_any (a b : Int) (ha : inR a) (w : World) : Calls Tryd.prog 32 #[.int .i64 a, .int .i64 b, .bool true] w fun e w' => e = .returned (pair (shl a b)) ∧ w = w' := by
  by_cases h : b < 0 ∨ 63 < b
  · have HE := Lib.hid (shl_und (a := a) h)
    clear ha
    rcases h with h | h
    · go_enter Tryd.func32, Tryd.ntmps32
      go_wp2
      go_ret2
      exact ⟨ret_pair rfl HE.out, rfl⟩
    · go_enter Tryd.func32, Tryd.ntmps32
      go_wp2
      go_ret2
      exact ⟨ret_pair rfl HE.out, rfl⟩
  have h0 : 0 ≤ b := by omega
  have h1 : b ≤ 63 := by omega
  have HA := Lib.hid ha
  clear h ha
  go_enter Tryd.func32, Tryd.ntmps32
  go_wp2_with fail
  go_loop [0, 8] (fun n i => ∃ k : Nat, (k : Int) ≤ b ∧ i = .int .i64 (k : Int) ∧ ∃ x : Int, n = .int .i64 x ∧ Hid (x = a * 2 ^ k) ∧ Hid (inR x)) (fun _ i => (b - (intOf i)).toNat)
  case atStart => exact ⟨0, by omega, rfl, a, rfl, Lib.hid (by rw [Int.pow_zero, Int.mul_one]), HA⟩
  case round =>
    obtain ⟨k, hk, rfl, x, rfl, HX, HR⟩ := hrel
    by_cases h7 : (k : Int) < b
    · have e : x + x = a * 2 ^ (k + 1) := by rw [HX.out, Int.pow_succ, ← Int.mul_assoc]; omega
      have HE := Lib.hid e
      clear e
      go_wp2_with fail
      refine (radd_any x x HR.out HR.out _).mono ?_
      rintro e w1 ⟨rfl, rfl⟩
      by_cases h8 : inR (x + x)
      · rw [ovf_in h8, pair]
        have H8 := Lib.hid h8
        clear h8
        go_wp2_with fail
        exact ⟨⟨k + 1, by omega, by go_num, x + x, rfl, HE, H8⟩, by simp [intOf]; omega⟩
      · rw [ovf_out h8, pair]
        have HP := Lib.hid (shl_out (a := a) (b := b) (k := k + 1) (by omega) h1 (by rw [← HE.out]; exact h8))
        clear h8
        go_wp2_with fail
        go_ret2
        exact ⟨ret_pair rfl HP.out, rfl⟩
    · have HP := Lib.hid (shl_in (a := a) (b := b) (k := k) (by omega) h1 (by rw [← HX.out]; exact HR.out))
      go_wp2_with fail
      go_ret2
      exact ⟨ret_pair HX.out HP.out, rfl⟩
theorem ediv_in {x : Int} (h : inR x) : inR (x / 2) := by unfold inR at *; omega
theorem rright_any (a b : Int) (ha : inR a) (w : World) : Calls Tryd.prog 32 #[.int .i64 a, .int .i64 b, .bool false] w fun e w' => e = .returned (pair (shr a b)) ∧ w = w' := by
  by_cases h : b < 0 ∨ 63 < b
  · have HE := Lib.hid (shr_und (a := a) h)
    clear ha
    rcases h with h | h
    · go_enter Tryd.func32, Tryd.ntmps32
      go_wp2
      go_ret2
      exact ⟨ret_pair rfl HE.out, rfl⟩
    · go_enter Tryd.func32, Tryd.ntmps32
      go_wp2
      go_ret2
      exact ⟨ret_pair rfl HE.out, rfl⟩
  have h0 : 0 ≤ b := by omega
  have h1 : b ≤ 63 := by omega
  have HA := Lib.hid ha
  clear h ha
  go_enter Tryd.func32, Tryd.ntmps32
  go_wp2_with fail
  go_loop [0, 8] (fun n i => ∃ k : Nat, (k : Int) ≤ b ∧ i = .int .i64 (k : Int) ∧ ∃ x : Int, n = .int .i64 x ∧ Hid (x = a / 2 ^ k) ∧ Hid (inR x)) (fun _ i => (b - (intOf i)).toNat)
  case atStart => exact ⟨0, by omega, rfl, a, rfl, Lib.hid (by rw [Int.pow_zero, Int.ediv_one]), HA⟩
  case round =>
    obtain ⟨k, hk, rfl, x, rfl, HX, HR⟩ := hrel
    by_cases h7 : (k : Int) < b
    · have HE := Lib.hid (show x / 2 = a / 2 ^ (k + 1) by rw [HX.out, div_pow])
      go_wp2_with fail
      refine (rdiv_any x 2 HR.out (by decide) _).mono ?_
      rintro e w1 ⟨rfl, rfl⟩
      rw [half, pair]
      go_wp2_with fail
      exact ⟨⟨k + 1, by omega, by go_num, x / 2, rfl, HE, Lib.hid (ediv_in HR.out)⟩, by simp [intOf]; omega⟩
    · have HP := Lib.hid (shr_in (a := a) (b := b) (k := k) (by omega) h1)
      go_wp2_with fail
      go_ret2
      exact ⟨ret_pair HX.out HP.out, rfl⟩
theorem gcd_step (x y : Int) : Int.gcd y (x.tmod y) = Int.gcd x y := by
  have h : (x.tmod y).natAbs = x.natAbs % y.natAbs := Int.natAbs_tmod x y
  show Nat.gcd y.natAbs (x.tmod y).natAbs = Nat.gcd x.natAbs y.natAbs
  rw [h, Nat.gcd_comm x.natAbs y.natAbs, Nat.gcd_rec y.natAbs x.natAbs, Nat.gcd_comm]
theorem rgcd_any (a b : Int) (ha : inR a) (hb : inR b) (w : World) : Calls Tryd.prog 34 #[.int .i64 a, .int .i64 b] w fun e w' => e = .returned (pair (gcdE a b)) ∧ w = w' := by
  have HA := Lib.hid ha
  have HB := Lib.hid hb
  clear ha hb
  go_enter Tryd.func34, Tryd.ntmps34
  go_wp2_with fail
  go_loop [0, 1] (fun x y => ∃ m n : Int, x = .int .i64 m ∧ y = .int .i64 n ∧ Hid (inR m ∧ inR n ∧ Int.gcd m n = Int.gcd a b)) (fun _ y => (intOf y).natAbs)
  case atStart => exact ⟨a, b, rfl, rfl, Lib.hid ⟨HA.out, HB.out, rfl⟩⟩
  case round =>
    obtain ⟨m, n, rfl, rfl, HG⟩ := hrel
    by_cases h0 : n = 0
    · subst h0
      have hg : gcdE a b = ovf (m.natAbs : Int) := by have := HG.out.2.2; rw [Int.gcd_zero_right] at this; unfold gcdE; rw [← this]
      by_cases hm : m < 0
      · have HE := Lib.hid (show gcdE a b = ovf (0 - m) by rw [hg]; congr 1; omega)
        clear hg
        go_wp2_with fail
        refine (rsub_any 0 m (by decide) HG.out.1 _).mono ?_
        rintro e w1 ⟨rfl, rfl⟩
        obtain ⟨r1, r2, hr⟩ := prod_ex (ovf (0 - m))
        rw [hr, pair]
        have HR := Lib.hid hr
        clear hr
        go_wp2_with fail
        go_ret2
        exact ⟨ret_pair rfl (HE.out.trans HR.out), rfl⟩
      · have HE := Lib.hid (show gcdE a b = (m, 0) by rw [hg, show (m.natAbs : Int) = m by omega, ovf_in HG.out.1])
        clear hg
        go_wp2_with fail
        go_ret2
        exact ⟨ret_pair rfl HE.out, rfl⟩
    · have hn0 : (n == 0) = false := by simpa using h0
      have hn1 : (n != 0) = true := by simpa using h0
      have hlt : (m.tmod n).natAbs < n.natAbs := by rw [Int.natAbs_tmod]; exact Nat.mod_lt _ (by omega)
      have HN := Lib.hid h0
      have HL := Lib.hid hlt
      clear h0 hlt
      go_wp2_with fail
      refine (rrem_any m n HG.out.1 HN.out _).mono ?_
      rintro e w1 ⟨rfl, rfl⟩
      have HT := Lib.hid (tmod_in (a := m) HG.out.2.1 HN.out).1
      have HS := Lib.hid ((gcd_step m n).trans HG.out.2.2)
      go_wp2_with fail
      exact ⟨⟨n, m.tmod n, rfl, rfl, Lib.hid ⟨HG.out.2.1, HT.out, HS.out⟩⟩, HL.out⟩
end Go.Proofs.YtcnbaioecoaopaaDoor
