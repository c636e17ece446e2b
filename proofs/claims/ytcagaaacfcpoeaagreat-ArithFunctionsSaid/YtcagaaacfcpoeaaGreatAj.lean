/-
  The walk of power. The walks of the reference's sum, difference, product and quotients. The walks of the reference's floored quotient and remainder, shifts, powers and divisors.
-/
import Derived.Test.YtcagaaacfcpoeaaGreatAg
import Derived.Deep.QuietTactic
import Derived.BigQuiet
namespace Go.Proofs.YtcagaaacfcpoeaaGreat
section
open Go.RowKit
theorem natAbs_out {n : Int} (h : ¬ inR n) : 9223372036854775808 ≤ n.natAbs := by unfold inR at h; omega
theorem out_natAbs {n : Int} (h : 9223372036854775809 ≤ n.natAbs) : ¬ inR n := by unfold inR; omega
theorem pow_out {a : Int} (h : 2 ≤ a.natAbs) {j b : Nat} (hj : j ≤ b) (ho : ¬ inR (a ^ j)) : ¬ inR (a ^ b) := by
  by_cases e : j = b
  · rw [← e]; exact ho
  · have h1 := natAbs_out ho
    rw [Int.natAbs_pow] at h1
    apply out_natAbs
    rw [Int.natAbs_pow]
    have h2 : a.natAbs ^ (j + 1) ≤ a.natAbs ^ b := Nat.pow_le_pow_right (by omega) (by omega)
    have h3 : a.natAbs ^ j * 2 ≤ a.natAbs ^ (j + 1) := by rw [Nat.pow_succ]; exact Nat.mul_le_mul_left _ h
    omega
theorem pow_big {a : Int} (h : 2 ≤ a.natAbs) {b : Nat} (hb : 64 ≤ b) : ¬ inR (a ^ b) := by
  apply out_natAbs
  rw [Int.natAbs_pow]
  have h2 : a.natAbs ^ 64 ≤ a.natAbs ^ b := Nat.pow_le_pow_right (by omega) hb
  have h3 : 2 ^ 64 ≤ a.natAbs ^ 64 := Nat.pow_le_pow_left h 64
  omega
theorem bits_one (b : Int) : bits BinOp.and IntKind.i64 b 1 = b % 2 := by
  have h1 : (BitVec.ofInt 64 b &&& BitVec.ofInt 64 1).toNat = (b % 18446744073709551616).toNat % 2 := by
    have e : BitVec.ofInt 64 1 = 1#64 := by decide
    rw [e, BitVec.toNat_and]
    show (BitVec.ofInt 64 b).toNat &&& 1 = _
    rw [Nat.and_one_is_mod, BitVec.toNat_ofInt]
    rfl
  show IntKind.i64.wrap ((BitVec.ofInt 64 b &&& BitVec.ofInt 64 1).toNat : Int) = _
  rw [h1, IntKind.wrap_i64]
  omega
/-- the power, in the chapter's cases -/
def pw (a b : Int) : Int × Int :=
  if a = 1 ∨ b = 0 then (1, 0) else if a = -1 then (if b % 2 = 0 then 1 else -1, 0)
  else if a = 0 then (0, if b < 0 then 11 else 0) else if b < 0 then (0, 12) else ovf (a ^ b.toNat)
theorem pw_far {a b : Int} (h : 2 ≤ a.natAbs) (hb : 63 < b) : pw a b = (0, 10) := by
  unfold pw
  rw [if_neg (by omega), if_neg (by omega), if_neg (by omega), if_neg (by omega), ovf_out (pow_big h (by omega))]
theorem pw_out {a b : Int} {k : Nat} (h : 2 ≤ a.natAbs) (hb : (k : Int) ≤ b) (h0 : 0 < b) (ho : ¬ inR (a ^ k)) : pw a b = (0, 10) := by
  unfold pw
  rw [if_neg (by omega), if_neg (by omega), if_neg (by omega), if_neg (by omega), ovf_out (pow_out h (by omega) ho)]
theorem pw_in {a b : Int} {k : Nat} (h : 2 ≤ a.natAbs) (hb : (k : Int) = b) (ho : inR (a ^ k)) : pw a b = (a ^ k, 0) := by
  unfold pw
  by_cases h0 : b = 0
  · have : k = 0 := by omega
    subst this
    rw [if_pos (.inr h0), Int.pow_zero]
  · rw [if_neg (by omega), if_neg (by omega), if_neg (by omega), if_neg (by omega), show b.toNat = k by omega, ovf_in ho]
theorem pw_one (b : Int) : pw 1 b = (1, 0) := by simp [pw]
theorem pw_neg (b : Int) : pw (-1) b = (if b % 2 = 0 then 1 else -1, 0) := by unfold pw; by_cases h : b = 0 <;> simp [h]
theorem pw_zneg {b : Int} (h : b < 0) : pw 0 b = (0, 11) := by
  unfold pw; rw [if_neg (by omega), if_neg (by omega), if_pos rfl, if_pos h]
theorem pw_zpos {b : Int} (h : 0 < b) : pw 0 b = (0, 0) := by
  unfold pw; rw [if_neg (by omega), if_neg (by omega), if_pos rfl, if_neg (by omega)]
theorem pw_zz (a : Int) : pw a 0 = (1, 0) := by simp [pw]
theorem pw_und {a b : Int} (h : 2 ≤ a.natAbs) (hb : b < 0) : pw a b = (0, 12) := by
  unfold pw
  rw [if_neg (by omega), if_neg (by omega), if_neg (by omega), if_pos hb]
set_option maxHeartbeats 400000 in
theorem power_any (a b : Int) (ha : inR a) (hb : inR b) (w : World) : Calls Tryz.prog 119 #[.int .i64 a, .int .i64 b] w fun e w' => e = .returned (pair (pw a b)) ∧ w = w' := by
  by_cases h1 : a = 1
  · subst h1
    have HE := Lib.hid (pw_one b)
    clear ha hb
    go_enter Tryz.func119, Tryz.ntmps119
    go_wp2
    go_ret2
    exact ⟨ret_pair rfl HE.out, rfl⟩
  have e1 : (a == 1) = false := by simpa using h1
  by_cases h2 : a = -1
  · subst h2
    have he := pw_neg b
    have hbo := bits_one b
    by_cases h3 : b % 2 = 0
    · have ht : (bits BinOp.and IntKind.i64 b 1 == 0) = true := by rw [hbo, h3]; rfl
      rw [if_pos h3] at he
      have HE := Lib.hid he
      clear ha hb h1 hbo h3 he
      go_enter Tryz.func119, Tryz.ntmps119
      go_wp2
      go_ret2
      exact ⟨ret_pair rfl HE.out, rfl⟩
    · have ht : (bits BinOp.and IntKind.i64 b 1 == 0) = false := by rw [hbo]; simpa using h3
      rw [if_neg h3] at he
      have HE := Lib.hid he
      clear ha hb h1 hbo h3 he
      go_enter Tryz.func119, Tryz.ntmps119
      go_wp2
      go_ret2
      exact ⟨ret_pair rfl HE.out, rfl⟩
  have e2 : (a == -1) = false := by simpa using h2
  by_cases h3 : a = 0
  · subst h3
    by_cases h4 : b < 0
    · have HE := Lib.hid (pw_zneg h4)
      clear ha hb h1 h2
      go_enter Tryz.func119, Tryz.ntmps119
      go_wp2
      go_ret2
      exact ⟨ret_pair rfl HE.out, rfl⟩
    · by_cases h5 : 0 < b
      · have HE := Lib.hid (pw_zpos h5)
        clear ha hb h1 h2 h4
        go_enter Tryz.func119, Tryz.ntmps119
        go_wp2
        go_ret2
        exact ⟨ret_pair rfl HE.out, rfl⟩
      · obtain rfl : b = 0 := by omega
        clear ha hb h1 h2 h4 h5
        go_enter Tryz.func119, Tryz.ntmps119
        go_wp2
        go_loop [1, 6] (fun b n => b = .int .i64 0 ∧ n = .int .i64 1) (fun _ _ => 0)
        case atStart => exact ⟨rfl, rfl⟩
        case round =>
          obtain ⟨rfl, rfl⟩ := hrel
          go_wp2
          go_ret2
          exact ⟨ret_pair rfl (pw_zz 0), rfl⟩
  have e3 : (a == 0) = false := by simpa using h3
  have h4 : 2 ≤ a.natAbs := by omega
  by_cases h5 : b < 0
  · have HE := Lib.hid (pw_und h4 h5)
    clear ha hb h1 h2 h3
    go_enter Tryz.func119, Tryz.ntmps119
    go_wp2
    go_ret2
    exact ⟨ret_pair rfl HE.out, rfl⟩
  by_cases h6 : 63 < b
  · have HE := Lib.hid (pw_far h4 h6)
    clear ha hb h1 h2 h3 h5
    go_enter Tryz.func119, Tryz.ntmps119
    go_wp2
    go_ret2
    exact ⟨ret_pair rfl HE.out, rfl⟩
  have HA := Lib.hid ha
  have H4 := Lib.hid h4
  have hb0 : 0 ≤ b := by omega
  have hb1 : b ≤ 63 := by omega
  clear ha hb h1 h2 h3 h4 h5 h6
  go_enter Tryz.func119, Tryz.ntmps119
  go_wp2
  go_loop [1, 6] (fun bv n => ∃ k : Nat, (k : Int) ≤ b ∧ bv = .int .i64 (b - k) ∧ ∃ x : Int, n = .int .i64 x ∧ Hid (x = a ^ k) ∧ Hid (inR x)) (fun bv _ => (intOf bv).toNat)
  case atStart => exact ⟨0, by omega, by rw [show b - ((0 : Nat) : Int) = b by omega], 1, rfl, Lib.hid (Int.pow_zero a).symm, Lib.hid (by decide)⟩
  case round =>
    obtain ⟨k, hk, rfl, x, rfl, HX, HR⟩ := hrel
    by_cases h7 : 0 < b - k
    · go_wp2_with fail
      refine (times_any x a HR.out HA.out _).mono ?_
      rintro e w1 ⟨rfl, rfl⟩
      by_cases h8 : inR (x * a)
      · rw [ovf_in h8, pair]
        have H8 := Lib.hid h8
        clear h8
        go_wp2_with fail
        exact ⟨⟨k + 1, by omega, by rw [show b - (k : Int) - 1 = b - ((k + 1 : Nat) : Int) by omega], x * a, rfl, Lib.hid (by rw [HX.out, Int.pow_succ]), H8⟩, by simp [intOf]; omega⟩
      · rw [ovf_out h8, pair]
        have HP := Lib.hid (pw_out (b := b) (k := k + 1) H4.out (by omega) (by omega) (by rw [Int.pow_succ, ← HX.out]; exact h8))
        clear h8
        go_wp2_with fail
        go_ret2
        exact ⟨ret_pair rfl HP.out, rfl⟩
    · have HP := Lib.hid (pw_in (b := b) (k := k) H4.out (by omega) (by rw [← HX.out]; exact HR.out))
      go_wp2_with fail
      go_ret2
      exact ⟨ret_pair HX.out HP.out, rfl⟩
end
section
open Go.RowKit
theorem prod_ex (x : Int × Int) : ∃ r1 r2, x = (r1, r2) := ⟨_, _, rfl⟩
end
section
open Go.RowKit
theorem flr_ok {a b : Int} (hb : b ≠ 0) (h : ¬ (a = -9223372036854775808 ∧ b = -1)) : flr a b = (Int.tdiv a b - (if off a b then 1 else 0), 0) := by
  unfold flr; rw [if_neg hb, if_neg h]
theorem flr_wrap {a b : Int} (ha : inR a) (hb : b ≠ 0) (h : ¬ (a = -9223372036854775808 ∧ b = -1)) (ho : off a b) : inR (a.tdiv b - 1) := by
  have hq := tdiv_in ha hb h
  have h2 := Int.mul_tdiv_add_tmod a b
  unfold inR at *
  by_cases hz : a.tdiv b = -9223372036854775808
  · exfalso
    rw [hz] at h2
    unfold off at ho
    have h3 : (a.tmod b).natAbs < b.natAbs := by rw [Int.natAbs_tmod]; exact Nat.mod_lt _ (by omega)
    have h4 : (a.tmod b).natAbs ≤ a.natAbs := by rw [Int.natAbs_tmod]; exact Nat.mod_le _ _
    omega
  · omega
theorem tmod_two (b : Int) : b.tmod 2 = 0 ↔ b % 2 = 0 := by
  have h := Int.mul_tdiv_add_tmod b 2
  have h1 : (b.tmod 2).natAbs < 2 := by rw [Int.natAbs_tmod]; exact Nat.mod_lt _ (by omega)
  omega
theorem mul_out {p t : Int} (ht : 1 ≤ t) (ho : ¬ inR p) : ¬ inR (p * t) := by
  unfold inR at *
  by_cases h : 9223372036854775807 < p
  · have : p * 1 ≤ p * t := Int.mul_le_mul_of_nonneg_left ht (by omega)
    omega
  · have h2 : p < -9223372036854775808 := by omega
    have : p * t ≤ p * 1 := Int.mul_le_mul_of_nonpos_left (by omega) ht
    omega
theorem half (a : Int) : flr a 2 = (a / 2, 0) := by
  have h := Int.mul_tdiv_add_tmod a 2
  have h1 : (a.tmod 2).natAbs < 2 := by rw [Int.natAbs_tmod]; exact Nat.mod_lt _ (by omega)
  have h2 : 0 ≤ a → 0 ≤ a.tmod 2 := fun h => Int.tmod_nonneg 2 h
  have h3 : a ≤ 0 → a.tmod 2 ≤ 0 := fun h => by have := Int.tmod_nonneg (a := -a) 2 (by omega); rw [Int.neg_tmod] at this; omega
  rw [flr_ok (by decide) (by omega)]
  congr 1
  by_cases hof : off a 2
  · rw [if_pos hof]; unfold off at hof; omega
  · rw [if_neg hof]; unfold off at hof; omega
theorem div_pow (a : Int) (i : Nat) : a / 2 ^ i / 2 = a / 2 ^ (i + 1) := by
  rw [Int.pow_succ, Int.ediv_ediv_of_nonneg (Int.pow_nonneg (by decide))]
theorem shl_out {a b : Int} {k : Nat} (hb : (k : Int) ≤ b) (h1 : b ≤ 63) (ho : ¬ inR (a * 2 ^ k)) : shl a b = (0, 10) := by
  unfold shl
  rw [if_neg (by omega)]
  refine ovf_out ?_
  have e : (2 : Int) ^ b.toNat = 2 ^ k * 2 ^ (b.toNat - k) := by rw [← Int.pow_add]; congr 1; omega
  rw [e, ← Int.mul_assoc]
  exact mul_out (pow_bound (by omega)).1 ho
theorem shl_in {a b : Int} {k : Nat} (hb : (k : Int) = b) (h1 : b ≤ 63) (ho : inR (a * 2 ^ k)) : shl a b = (a * 2 ^ k, 0) := by
  unfold shl
  rw [if_neg (by omega), show b.toNat = k by omega, ovf_in ho]
theorem shr_in {a b : Int} {k : Nat} (hb : (k : Int) = b) (h1 : b ≤ 63) : shr a b = (a / 2 ^ k, 0) := by
  unfold shr
  rw [if_neg (by omega), show b.toNat = k by omega]
theorem shr_und {a b : Int} (h : b < 0 ∨ 63 < b) : shr a b = (0, 12) := if_pos h
theorem shl_und {a b : Int} (h : b < 0 ∨ 63 < b) : shl a b = (0, 12) := if_pos h
theorem ediv_in {x : Int} (h : inR x) : inR (x / 2) := by unfold inR at *; omega
theorem gcd_step (x y : Int) : Int.gcd y (x.tmod y) = Int.gcd x y := by
  have h : (x.tmod y).natAbs = x.natAbs % y.natAbs := Int.natAbs_tmod x y
  show Nat.gcd y.natAbs (x.tmod y).natAbs = Nat.gcd x.natAbs y.natAbs
  rw [h, Nat.gcd_comm x.natAbs y.natAbs, Nat.gcd_rec y.natAbs x.natAbs, Nat.gcd_comm]
end
end Go.Proofs.YtcagaaacfcpoeaaGreat
