/-
   The walks of quotient, remainder and times. The walk of times. The walks of floor and modulo. The walks of the shifts. The walk of divisor. The walks of the functions whose value is always defined.
-/
import Derived.Test.YtcagaaacfcpoeaaGreatProg
import Derived.WalkKit
import Derived.WalkSpells
import Derived.Lib.Hide
import Derived.Deep.QuietTactic
namespace Go.Proofs.YtcagaaacfcpoeaaGreat
section
open Go.RowKit
def inR (n : Int) : Prop := -9223372036854775808 ≤ n ∧ n ≤ 9223372036854775807
instance (n : Int) : Decidable (inR n) := inferInstanceAs (Decidable (_ ∧ _))
def pair (x : Int × Int) : Value := .tuple #[.int .i64 x.1, .int .i64 x.2]
def ovf (n : Int) : Int × Int := if inR n then (n, 0) else (0, 10)
theorem ovf_in {n : Int} (h : inR n) : ovf n = (n, 0) := if_pos h
theorem ovf_out {n : Int} (h : ¬ inR n) : ovf n = (0, 10) := if_neg h
theorem wrap_cases {n : Int} (h : -18446744073709551616 ≤ n ∧ n ≤ 18446744073709551615) : (inR n ∧ wrap64 n = n) ∨ (n < -9223372036854775808 ∧ wrap64 n = n + 18446744073709551616) ∨ (9223372036854775807 < n ∧ wrap64 n = n - 18446744073709551616) := by
  unfold inR wrap64; omega

theorem pair_ok {n m : Int} (h : inR n ∧ m = n) : Ending.returned (.tuple #[.int .i64 m, .int .i64 0]) = .returned (pair (ovf n)) := by
  rw [ovf_in h.1, h.2]; rfl
theorem pair_no {n : Int} (h : ¬ inR n) : Ending.returned (.tuple #[.int .i64 0, .int .i64 10]) = .returned (pair (ovf n)) := by
  rw [ovf_out h]; rfl

theorem plus_any (a b : Int) (ha : inR a) (hb : inR b) (w : World) :
    Calls Tryz.prog 106 #[.int .i64 a, .int .i64 b] w fun e w' => e = .returned (pair (ovf (a + b))) ∧ w = w' := by
  unfold inR at ha hb
  go_enter Tryz.func106, Tryz.ntmps106
  go_wp2
  all_goals go_ret2
  all_goals have hc := wrap_cases (n := a + b) (by omega)
  all_goals unfold inR at hc
  all_goals first
    | exact ⟨pair_ok (by unfold inR; first | omega | (simp_all; omega)), rfl⟩
    | exact ⟨pair_no (by unfold inR; first | omega | (simp_all; omega)), rfl⟩

theorem minus_any (a b : Int) (ha : inR a) (hb : inR b) (w : World) :
    Calls Tryz.prog 100 #[.int .i64 a, .int .i64 b] w fun e w' => e = .returned (pair (ovf (a - b))) ∧ w = w' := by
  unfold inR at ha hb
  go_enter Tryz.func100, Tryz.ntmps100
  go_wp2
  all_goals go_ret2
  all_goals have hc := wrap_cases (n := a - b) (by omega)
  all_goals unfold inR at hc
  all_goals first
    | exact ⟨pair_ok (by unfold inR; first | omega | (simp_all; omega)), rfl⟩
    | exact ⟨pair_no (by unfold inR; first | omega | (simp_all; omega)), rfl⟩
end
section
open Go.RowKit
theorem wrap_in {n : Int} (h : inR n) : wrap64 n = n := by unfold inR at h; unfold wrap64; omega
theorem tdiv_in {a b : Int} (ha : inR a) (hb : b ≠ 0) (h : ¬ (a = -9223372036854775808 ∧ b = -1)) : inR (a.tdiv b) := by
  have h1 : (a.tdiv b).natAbs = a.natAbs / b.natAbs := Int.natAbs_tdiv a b
  unfold inR at *
  by_cases hb1 : b = -1
  · subst hb1
    rw [Int.tdiv_neg, Int.tdiv_one]; omega
  · by_cases hb2 : b = 1
    · subst hb2; rw [Int.tdiv_one]; exact ha
    · have h2 : 2 ≤ b.natAbs := by omega
      have h3 : a.natAbs / b.natAbs ≤ a.natAbs / 2 := Nat.div_le_div_left h2 (by omega)
      omega
theorem ret_pair {m n e : Int} {x : Int × Int} (h1 : m = n) (h : x = (n, e)) : Ending.returned (.tuple #[.int .i64 m, .int .i64 e]) = .returned (pair x) := by subst h1 h; rfl
def quo (a b : Int) : Int × Int := if b = 0 then (0, 11) else ovf (Int.tdiv a b)
def rmd (a b : Int) : Int × Int := if b = 0 then (0, 11) else (Int.tmod a b, 0)
theorem quot_any (a b : Int) (ha : inR a) (hb : inR b) (w : World) :
    Calls Tryz.prog 108 #[.int .i64 a, .int .i64 b] w fun e w' => e = .returned (pair (quo a b)) ∧ w = w' := by
  by_cases h0 : b = 0
  · subst h0
    go_enter Tryz.func108, Tryz.ntmps108
    go_wp2
    go_ret2
    exact ⟨rfl, rfl⟩
  · have hb0 : (b == 0) = false := by simpa using h0
    by_cases h1 : a = -9223372036854775808 ∧ b = -1
    · obtain ⟨rfl, rfl⟩ := h1
      go_enter Tryz.func108, Tryz.ntmps108
      go_wp2
      go_ret2
      exact ⟨rfl, rfl⟩
    · have hq := tdiv_in ha h0 h1
      have hw : wrap64 (a.tdiv b) = a.tdiv b := wrap_in hq
      have e : quo a b = (a.tdiv b, 0) := by unfold quo; rw [if_neg h0, ovf_in hq]
      by_cases h2 : a = -9223372036854775808
      · have hb1 : (b == -1) = false := by simp; omega
        have ha2 : (a == -9223372036854775808) = true := by simpa using h2
        have HE := Lib.hid e
        have H2 := Lib.hid h2
        clear e h1 hq h2 ha hb
        go_enter Tryz.func108, Tryz.ntmps108
        go_wp2
        go_ret2
        exact ⟨ret_pair hw HE.out, rfl⟩
      · have ha2 : (a == -9223372036854775808) = false := by simpa using h2
        have HE := Lib.hid e
        clear e h1 hq ha hb
        go_enter Tryz.func108, Tryz.ntmps108
        go_wp2
        go_ret2
        exact ⟨ret_pair hw HE.out, rfl⟩
theorem rem_any (a b : Int) (w : World) :
    Calls Tryz.prog 109 #[.int .i64 a, .int .i64 b] w fun e w' => e = .returned (pair (rmd a b)) ∧ w = w' := by
  by_cases h0 : b = 0
  · subst h0
    go_enter Tryz.func109, Tryz.ntmps109
    go_wp2
    go_ret2
    exact ⟨rfl, rfl⟩
  · have hb0 : (b == 0) = false := by simpa using h0
    by_cases h1 : b = -1
    · subst h1
      have e : rmd a (-1) = (0, 0) := by unfold rmd; rw [if_neg (by decide), Int.tmod_neg, Int.tmod_one]
      have HE := Lib.hid e
      clear e
      go_enter Tryz.func109, Tryz.ntmps109
      go_wp2
      go_ret2
      exact ⟨ret_pair rfl HE.out, rfl⟩
    · have hb1 : (b == -1) = false := by simpa using h1
      have e : rmd a b = (a.tmod b, 0) := by unfold rmd; rw [if_neg h0]
      have HE := Lib.hid e
      clear e
      go_enter Tryz.func109, Tryz.ntmps109
      go_wp2
      go_ret2
      exact ⟨ret_pair rfl HE.out, rfl⟩
end
section
open Go.RowKit
theorem wrap_wf (n : Int) : inR (wrap64 n) := by unfold inR wrap64; omega
theorem times_key {a b : Int} (ha : inR a) (hb : inR b) (h0 : b ≠ 0) (h1 : ¬ (b = -1 ∧ a = -9223372036854775808)) (h : wrap64 ((wrap64 (a * b)).tdiv b) = a) : inR (a * b) := by
  by_cases hb1 : b = -1
  · subst hb1
    unfold inR at *
    omega
  · have hn := wrap_wf (a * b)
    rw [wrap_in (tdiv_in hn h0 (fun h => hb1 h.2))] at h
    have h2 := Int.mul_tdiv_add_tmod (wrap64 (a * b)) b
    have h3 : ((wrap64 (a * b)).tmod b).natAbs < b.natAbs := by
      rw [Int.natAbs_tmod]; exact Nat.mod_lt _ (by omega)
    rw [h] at h2
    have hc : b * a = a * b := Int.mul_comm b a
    rw [hc] at h2
    have hd : wrap64 (a * b) = (a * b + 9223372036854775808) % 18446744073709551616 - 9223372036854775808 := by unfold wrap64; rfl
    generalize (wrap64 (a * b)).tmod b = r at h2 h3
    generalize wrap64 (a * b) = n at h2 hd hn
    generalize a * b = p at h2 hd ⊢
    unfold inR at *
    omega
theorem times_ok {a b : Int} (ha : inR a) (h0 : b ≠ 0) (h : inR (a * b)) : wrap64 ((wrap64 (a * b)).tdiv b) = a := by
  rw [wrap_in h, Int.mul_tdiv_cancel _ h0, wrap_in ha]
theorem times_any (a b : Int) (ha : inR a) (hb : inR b) (w : World) :
    Calls Tryz.prog 107 #[.int .i64 a, .int .i64 b] w fun e w' => e = .returned (pair (ovf (a * b))) ∧ w = w' := by
  have hz : ovf 0 = (0, 0) := ovf_in (by decide)
  by_cases ha0 : a = 0
  · subst ha0
    have HE : Hid (ovf (0 * b) = (0, 0)) := Lib.hid (by rw [Int.zero_mul, hz])
    clear hz ha hb
    go_enter Tryz.func107, Tryz.ntmps107
    go_wp2
    go_ret2
    exact ⟨ret_pair rfl HE.out, rfl⟩
  · by_cases hb0 : b = 0
    · subst hb0
      have HE : Hid (ovf (a * 0) = (0, 0)) := Lib.hid (by rw [Int.mul_zero, hz])
      clear hz ha hb
      go_enter Tryz.func107, Tryz.ntmps107
      go_wp2
      go_ret2
      exact ⟨ret_pair rfl HE.out, rfl⟩
    · have ba : (a == 0) = false := by simpa using ha0
      have bb : (b == 0) = false := by simpa using hb0
      by_cases h1 : b = -1 ∧ a = -9223372036854775808
      · obtain ⟨rfl, rfl⟩ := h1
        clear hz ha hb ha0 hb0
        go_enter Tryz.func107, Tryz.ntmps107
        go_wp2
        go_ret2
        exact ⟨rfl, rfl⟩
      · by_cases hk : wrap64 ((wrap64 (a * b)).tdiv b) = a
        · have hin := times_key ha hb hb0 h1 hk
          have HE := Lib.hid (ovf_in hin)
          have HW := Lib.hid (wrap_in hin)
          have bk : (wrap64 ((wrap64 (a * b)).tdiv b) != a) = false := by simpa using hk
          have H1 := Lib.hid h1
          clear hz hin ha hb
          by_cases hb1 : b = -1
          · have b1 : (b == -1) = true := by simpa using hb1
            have a1 : (a == -9223372036854775808) = false := by simp; exact fun e => h1 ⟨hb1, e⟩
            clear hb1 h1
            go_enter Tryz.func107, Tryz.ntmps107
            go_wp2
            go_ret2
            exact ⟨ret_pair HW.out HE.out, rfl⟩
          · have b1 : (b == -1) = false := by simpa using hb1
            clear hb1 h1
            go_enter Tryz.func107, Tryz.ntmps107
            go_wp2
            go_ret2
            exact ⟨ret_pair HW.out HE.out, rfl⟩
        · have hin : ¬ inR (a * b) := fun h => hk (times_ok ha hb0 h)
          have HE := Lib.hid (ovf_out hin)
          have bk : (wrap64 ((wrap64 (a * b)).tdiv b) != a) = true := by simpa using hk
          clear hz hin ha hb
          by_cases hb1 : b = -1
          · have b1 : (b == -1) = true := by simpa using hb1
            have a1 : (a == -9223372036854775808) = false := by simp; exact fun e => h1 ⟨hb1, e⟩
            clear hb1 h1
            go_enter Tryz.func107, Tryz.ntmps107
            go_wp2
            go_ret2
            exact ⟨ret_pair rfl HE.out, rfl⟩
          · have b1 : (b == -1) = false := by simpa using hb1
            clear hb1 h1
            go_enter Tryz.func107, Tryz.ntmps107
            go_wp2
            go_ret2
            exact ⟨ret_pair rfl HE.out, rfl⟩
end
section
open Go.RowKit
/-- the rest of the division and the divisor have other signs -/
def off (a b : Int) : Prop := (Int.tmod a b < 0 ∧ 0 < b) ∨ (0 < Int.tmod a b ∧ b < 0)
instance (a b : Int) : Decidable (off a b) := inferInstanceAs (Decidable (_ ∨ _))
def flr (a b : Int) : Int × Int := if b = 0 then (0, 11) else if a = -9223372036854775808 ∧ b = -1 then (0, 10) else (Int.tdiv a b - (if off a b then 1 else 0), 0)
def mdl (a b : Int) : Int × Int := if b = 0 then (0, 11) else (Int.tmod a b + (if off a b then b else 0), 0)
theorem tmod_in {a b : Int} (hb : inR b) (h0 : b ≠ 0) : inR (a.tmod b) ∧ inR (a.tmod b + (if off a b then b else 0)) := by
  have h3 : (a.tmod b).natAbs < b.natAbs := by rw [Int.natAbs_tmod]; exact Nat.mod_lt _ (by omega)
  unfold inR at *
  by_cases h : off a b
  · rw [if_pos h]
    unfold off at h
    omega
  · rw [if_neg h]
    omega
theorem mod_any (a b : Int) (hb : inR b) (w : World) :
    Calls Tryz.prog 111 #[.int .i64 a, .int .i64 b] w fun e w' => e = .returned (pair (mdl a b)) ∧ w = w' := by
  go_enter Tryz.func111, Tryz.ntmps111
  go_wp2_with fail
  refine (rem_any a b _).mono ?_
  rintro e w1 ⟨rfl, rfl⟩
  by_cases h0 : b = 0
  · subst h0
    rw [show rmd a 0 = (0, 11) from if_pos rfl, pair]
    go_wp2_with fail
    go_ret2
    exact ⟨rfl, rfl⟩
  · rw [show rmd a b = (a.tmod b, 0) from if_neg h0, pair]
    have hm := tmod_in (a := a) hb h0
    have he : mdl a b = (a.tmod b + (if off a b then b else 0), 0) := if_neg h0
    have HE := Lib.hid he
    have HM := Lib.hid hm
    have hO : off a b ↔ (Int.tmod a b < 0 ∧ 0 < b) ∨ (0 < Int.tmod a b ∧ b < 0) := Iff.rfl
    have HO := Lib.hid hO
    clear hm he hb hO
    go_wp2_with fail
    all_goals go_ret2
    all_goals refine ⟨ret_pair ?_ HE.out, rfl⟩
    all_goals have hO := HO.out
    all_goals have hm := HM.out
    all_goals clear HE HO HM
    all_goals generalize Int.tmod a b = r at *
    all_goals by_cases hoff : off a b
    all_goals simp only [hoff, if_true, if_false, true_iff, false_iff] at hO hm ⊢
    all_goals first
      | omega
      | (rw [wrap_in hm.2])
      | (simp_all; omega)
theorem floor_any (a b : Int) (ha : inR a) (hb : inR b) (w : World) :
    Calls Tryz.prog 110 #[.int .i64 a, .int .i64 b] w fun e w' => e = .returned (pair (flr a b)) ∧ w = w' := by
  go_enter Tryz.func110, Tryz.ntmps110
  go_wp2_with fail
  refine (quot_any a b ha hb _).mono ?_
  rintro e w1 ⟨rfl, rfl⟩
  by_cases h0 : b = 0
  · subst h0
    rw [show quo a 0 = (0, 11) from if_pos rfl, pair]
    go_wp2_with fail
    go_ret2
    exact ⟨rfl, rfl⟩
  · by_cases h1 : a = -9223372036854775808 ∧ b = -1
    · obtain ⟨rfl, rfl⟩ := h1
      rw [show quo (-9223372036854775808) (-1) = (0, 10) from by decide, pair]
      go_wp2_with fail
      go_ret2
      exact ⟨rfl, rfl⟩
    · have hq := tdiv_in ha h0 h1
      have e : quo a b = (a.tdiv b, 0) := by unfold quo; rw [if_neg h0, ovf_in hq]
      have hf : flr a b = (Int.tdiv a b - (if off a b then 1 else 0), 0) := by unfold flr; rw [if_neg h0, if_neg h1]
      have hqo : off a b → inR (a.tdiv b - 1) := fun h => by
        have h2 := Int.mul_tdiv_add_tmod a b
        unfold inR at *
        by_cases hz : a.tdiv b = -9223372036854775808
        · exfalso
          rw [hz] at h2
          unfold off at h
          have h3 : (a.tmod b).natAbs < b.natAbs := by rw [Int.natAbs_tmod]; exact Nat.mod_lt _ (by omega)
          have h4 : (a.tmod b).natAbs ≤ a.natAbs := by rw [Int.natAbs_tmod]; exact Nat.mod_le _ _
          omega
        · omega
      rw [e, pair]
      have HE := Lib.hid hf
      have HQ := Lib.hid hqo
      have hO : off a b ↔ (Int.tmod a b < 0 ∧ 0 < b) ∨ (0 < Int.tmod a b ∧ b < 0) := Iff.rfl
      have HO := Lib.hid hO
      clear e hf hq hqo hO ha hb h1
      go_wp2_with fail
      refine (rem_any a b _).mono ?_
      rintro e w1 ⟨rfl, rfl⟩
      rw [show rmd a b = (a.tmod b, 0) from if_neg h0, pair]
      go_wp2_with fail
      all_goals go_ret2
      all_goals refine ⟨ret_pair ?_ HE.out, rfl⟩
      all_goals have hO := HO.out
      all_goals have hm := HQ.out
      all_goals clear HE HO HQ
      all_goals generalize Int.tmod a b = r at *
      all_goals by_cases hoff : off a b
      all_goals simp only [hoff, if_true, if_false, true_iff, false_iff, forall_const] at hO hm ⊢
      all_goals first
        | omega
        | (rw [wrap_in hm])
        | (simp_all; omega)
end
section
open Go.RowKit
def shr (a b : Int) : Int × Int := if b < 0 ∨ 63 < b then (0, 12) else (a / 2 ^ b.toNat, 0)
def shl (a b : Int) : Int × Int := if b < 0 ∨ 63 < b then (0, 12) else ovf (a * 2 ^ b.toNat)
theorem pow_bound {k : Nat} (h : k ≤ 63) : (1 : Int) ≤ 2 ^ k ∧ (2 : Int) ^ k ≤ 9223372036854775808 := by
  have h1 : (2 : Nat) ^ k ≤ 2 ^ 63 := Nat.pow_le_pow_right (by decide) h
  have h2 : 1 ≤ (2 : Nat) ^ k := Nat.one_le_two_pow
  have e : ((2 : Int) ^ k) = (((2 : Nat) ^ k : Nat) : Int) := by simp
  rw [e]
  omega
theorem shl_key {a t : Int} (ht : 1 ≤ t ∧ t ≤ 9223372036854775808) (h : wrap64 (a * t) / t = a) : inR (a * t) := by
  have hn := wrap_wf (a * t)
  have h2 := Int.mul_ediv_add_emod (wrap64 (a * t)) t
  have h3 := Int.emod_nonneg (wrap64 (a * t)) (show t ≠ 0 by omega)
  have h4 := Int.emod_lt_of_pos (wrap64 (a * t)) (show 0 < t by omega)
  rw [h, Int.mul_comm t a] at h2
  have hd : wrap64 (a * t) = (a * t + 9223372036854775808) % 18446744073709551616 - 9223372036854775808 := by unfold wrap64; rfl
  generalize wrap64 (a * t) % t = r at h2 h3 h4
  generalize wrap64 (a * t) = n at h2 hd hn
  generalize a * t = p at h2 hd ⊢
  unfold inR at *
  omega
theorem right_any (a b : Int) (w : World) :
    Calls Tryz.prog 114 #[.int .i64 a, .int .i64 b] w fun e w' => e = .returned (pair (shr a b)) ∧ w = w' := by
  by_cases h : b < 0 ∨ 63 < b
  · have HE := Lib.hid (show shr a b = (0, 12) from if_pos h)
    rcases h with h | h
    · go_enter Tryz.func114, Tryz.ntmps114
      go_wp2
      go_ret2
      exact ⟨ret_pair rfl HE.out, rfl⟩
    · go_enter Tryz.func114, Tryz.ntmps114
      go_wp2
      go_ret2
      exact ⟨ret_pair rfl HE.out, rfl⟩
  · have HE := Lib.hid (show shr a b = (a / 2 ^ b.toNat, 0) from if_neg h)
    have h0 : 0 ≤ b := by omega
    have h1 : b ≤ 63 := by omega
    clear h
    go_enter Tryz.func114, Tryz.ntmps114
    go_wp2
    go_ret2
    exact ⟨ret_pair rfl HE.out, rfl⟩
theorem left_any (a b : Int) (w : World) :
    Calls Tryz.prog 115 #[.int .i64 a, .int .i64 b] w fun e w' => e = .returned (pair (shl a b)) ∧ w = w' := by
  by_cases h : b < 0 ∨ 63 < b
  · have HE := Lib.hid (show shl a b = (0, 12) from if_pos h)
    rcases h with h | h
    · go_enter Tryz.func115, Tryz.ntmps115
      go_wp2
      go_ret2
      exact ⟨ret_pair rfl HE.out, rfl⟩
    · go_enter Tryz.func115, Tryz.ntmps115
      go_wp2
      go_ret2
      exact ⟨ret_pair rfl HE.out, rfl⟩
  · have he := show shl a b = ovf (a * 2 ^ b.toNat) from if_neg h
    have h0 : 0 ≤ b := by omega
    have h1 : b ≤ 63 := by omega
    have ht := pow_bound (k := b.toNat) (by omega)
    clear h
    by_cases hk : wrap64 (a * 2 ^ b.toNat) / 2 ^ b.toNat = a
    · have hin := shl_key ht hk
      rw [ovf_in hin] at he
      have HE := Lib.hid he
      have HW := Lib.hid (wrap_in hin)
      have bk : (wrap64 (a * 2 ^ b.toNat) / 2 ^ b.toNat != a) = false := by simpa using hk
      clear he hin ht hk
      go_enter Tryz.func115, Tryz.ntmps115
      go_wp2
      go_ret2
      exact ⟨ret_pair HW.out HE.out, rfl⟩
    · have hin : ¬ inR (a * 2 ^ b.toNat) := fun hi => hk (by rw [wrap_in hi, Int.mul_ediv_cancel _ (by omega)])
      rw [ovf_out hin] at he
      have HE := Lib.hid he
      have bk : (wrap64 (a * 2 ^ b.toNat) / 2 ^ b.toNat != a) = true := by simpa using hk
      clear he hin ht hk
      go_enter Tryz.func115, Tryz.ntmps115
      go_wp2
      go_ret2
      exact ⟨ret_pair rfl HE.out, rfl⟩
end
section
open Go.RowKit
theorem ret_u64 {a b : Int} (h : a = b) : Ending.returned (.int .u64 a) = .returned (.int .u64 b) := by rw [h]
theorem isize_any (a : Int) (ha : inR a) (w : World) : Calls Tryz.prog 123 #[.int .i64 a] w fun e w' => e = .returned (.int .u64 (a.natAbs : Int)) ∧ w = w' := by
  unfold inR at ha
  go_enter Tryz.func123, Tryz.ntmps123
  go_wp2
  all_goals go_ret
  all_goals refine ⟨?_, rfl⟩
  · refine ret_u64 ?_
    simp [IntKind.wrap, IntKind.signed, IntKind.bits]
    omega
  · refine ret_u64 ?_
    omega
def gcdE (a b : Int) : Int × Int := ovf (Int.gcd a b : Int)
theorem divisor_any (a b : Int) (ha : inR a) (hb : inR b) (w : World) : Calls Tryz.prog 120 #[.int .i64 a, .int .i64 b] w fun e w' => e = .returned (pair (gcdE a b)) ∧ ∃ q, w' = w.drewN q := by
  have HA := Lib.hid ha
  have HB := Lib.hid hb
  clear ha hb
  go_enter Tryz.func120, Tryz.ntmps120
  go_wp2_with fail
  refine (isize_any a HA.out _).mono ?_
  rintro e w1 ⟨rfl, rfl⟩
  go_wp2_with fail
  refine (isize_any b HB.out _).mono ?_
  rintro e w1 ⟨rfl, rfl⟩
  go_wp2_with fail
  go_loopw [6, 7] (fun x y wr => ∃ m n q : Nat, x = .int .u64 (m : Int) ∧ y = .int .u64 (n : Int) ∧ m ≤ 9223372036854775808 ∧ n ≤ 9223372036854775808 ∧ Hid (Nat.gcd m n = Int.gcd a b) ∧ Hid (wr = w.drewN q)) (fun _ y _ => (intOf y).toNat)
  case atStart => exact ⟨a.natAbs, b.natAbs, 0, rfl, rfl, by have := HA.out; unfold inR at this; omega, by have := HB.out; unfold inR at this; omega, rfl, rfl⟩
  case round =>
    obtain ⟨m, n, q, rfl, rfl, hm, hn, HG, HW⟩ := hrel
    by_cases h0 : n = 0
    · subst h0
      have hg : (Int.gcd a b : Int) = (m : Int) := by have := HG.out; rw [Nat.gcd_zero_right] at this; rw [this]
      have HGE := Lib.hid (show gcdE a b = ovf (m : Int) by unfold gcdE; rw [hg])
      clear hg
      by_cases hm2 : m ≤ 9223372036854775807
      · have HI := Lib.hid (show ovf (m : Int) = ((m : Int), 0) from ovf_in (by unfold inR; omega))
        go_wp2_with fail
        go_ret2
        exact ⟨ret_pair rfl (HGE.out.trans HI.out), q, HW.out⟩
      · have HI := Lib.hid (show ovf (m : Int) = (0, 10) from ovf_out (by unfold inR; omega))
        go_wp2_with fail
        go_ret2
        exact ⟨ret_pair rfl (HGE.out.trans HI.out), q, HW.out⟩
    · have hn0 : (n : Int) ≠ 0 := by omega
      have hnp : 0 < (n : Int) := by omega
      go_wp2_with fail
      go_quiet (fail)
      go_wp2_with fail
      have e : ((m : Int).tmod (n : Int)) = ((m % n : Nat) : Int) := rfl
      have hlt : m % n < n := Nat.mod_lt m (by omega)
      refine ⟨⟨n, m % n, q + nq, rfl, by rw [e], hn, by omega, ?_, ?_⟩, ?_⟩
      · exact Lib.hid (by rw [← HG.out, Nat.gcd_comm m n, Nat.gcd_rec n m, Nat.gcd_comm])
      · exact Lib.hid (by rw [HW.out, World.drewN_drewN])
      · rw [e]; simp only [intOf]; omega
end
section
open Go.RowKit
def sgn (x : Int) : Int := if x < 0 then -1 else if 0 < x then 1 else 0
theorem ret_i64 {a b : Int} (h : a = b) : Ending.returned (.int .i64 a) = .returned (.int .i64 b) := by rw [h]
theorem min_any (x y : Int) (w : World) : Calls Tryz.prog 112 #[.int .i64 x, .int .i64 y] w fun e w' => e = .returned (.int .i64 (min x y)) ∧ w = w' := by
  go_enter Tryz.func112, Tryz.ntmps112
  go_wp2
  all_goals go_ret
  all_goals exact ⟨ret_i64 (by omega), rfl⟩
theorem min_exact (b : Nat) (x y : Int) (w : World) (h : w.cell? ⟨b, 0, none⟩ = some (.func (.func 112) #[] #[])) :
    Calls Tryz.prog 122 #[.int .i64 x, .int .i64 y, .pointer (some ⟨b, 0, none⟩)] w fun e w' => e = .returned (pair ((min x y), 0)) ∧ w = w' := by
  go_enter Tryz.func122, Tryz.ntmps122
  go_wp2_with fail
  refine (min_any x y _).mono ?_
  rintro e w1 ⟨rfl, rfl⟩
  go_wp2_with fail
  go_ret2
  exact ⟨rfl, rfl⟩
theorem max_any (x y : Int) (w : World) : Calls Tryz.prog 113 #[.int .i64 x, .int .i64 y] w fun e w' => e = .returned (.int .i64 (max x y)) ∧ w = w' := by
  go_enter Tryz.func113, Tryz.ntmps113
  go_wp2
  all_goals go_ret
  all_goals exact ⟨ret_i64 (by omega), rfl⟩
theorem max_exact (b : Nat) (x y : Int) (w : World) (h : w.cell? ⟨b, 0, none⟩ = some (.func (.func 113) #[] #[])) :
    Calls Tryz.prog 122 #[.int .i64 x, .int .i64 y, .pointer (some ⟨b, 0, none⟩)] w fun e w' => e = .returned (pair ((max x y), 0)) ∧ w = w' := by
  go_enter Tryz.func122, Tryz.ntmps122
  go_wp2_with fail
  refine (max_any x y _).mono ?_
  rintro e w1 ⟨rfl, rfl⟩
  go_wp2_with fail
  go_ret2
  exact ⟨rfl, rfl⟩
theorem and_any (x y : Int) (w : World) : Calls Tryz.prog 116 #[.int .i64 x, .int .i64 y] w fun e w' => e = .returned (.int .i64 (bits BinOp.and IntKind.i64 x y)) ∧ w = w' := by
  go_enter Tryz.func116, Tryz.ntmps116
  go_wp2
  all_goals go_ret
  all_goals exact ⟨ret_i64 rfl, rfl⟩
theorem and_exact (b : Nat) (x y : Int) (w : World) (h : w.cell? ⟨b, 0, none⟩ = some (.func (.func 116) #[] #[])) :
    Calls Tryz.prog 122 #[.int .i64 x, .int .i64 y, .pointer (some ⟨b, 0, none⟩)] w fun e w' => e = .returned (pair ((bits BinOp.and IntKind.i64 x y), 0)) ∧ w = w' := by
  go_enter Tryz.func122, Tryz.ntmps122
  go_wp2_with fail
  refine (and_any x y _).mono ?_
  rintro e w1 ⟨rfl, rfl⟩
  go_wp2_with fail
  go_ret2
  exact ⟨rfl, rfl⟩
theorem or_any (x y : Int) (w : World) : Calls Tryz.prog 117 #[.int .i64 x, .int .i64 y] w fun e w' => e = .returned (.int .i64 (bits BinOp.or IntKind.i64 x y)) ∧ w = w' := by
  go_enter Tryz.func117, Tryz.ntmps117
  go_wp2
  all_goals go_ret
  all_goals exact ⟨ret_i64 rfl, rfl⟩
theorem or_exact (b : Nat) (x y : Int) (w : World) (h : w.cell? ⟨b, 0, none⟩ = some (.func (.func 117) #[] #[])) :
    Calls Tryz.prog 122 #[.int .i64 x, .int .i64 y, .pointer (some ⟨b, 0, none⟩)] w fun e w' => e = .returned (pair ((bits BinOp.or IntKind.i64 x y), 0)) ∧ w = w' := by
  go_enter Tryz.func122, Tryz.ntmps122
  go_wp2_with fail
  refine (or_any x y _).mono ?_
  rintro e w1 ⟨rfl, rfl⟩
  go_wp2_with fail
  go_ret2
  exact ⟨rfl, rfl⟩
theorem xor_any (x y : Int) (w : World) : Calls Tryz.prog 118 #[.int .i64 x, .int .i64 y] w fun e w' => e = .returned (.int .i64 (bits BinOp.xor IntKind.i64 x y)) ∧ w = w' := by
  go_enter Tryz.func118, Tryz.ntmps118
  go_wp2
  all_goals go_ret
  all_goals exact ⟨ret_i64 rfl, rfl⟩
theorem xor_exact (b : Nat) (x y : Int) (w : World) (h : w.cell? ⟨b, 0, none⟩ = some (.func (.func 118) #[] #[])) :
    Calls Tryz.prog 122 #[.int .i64 x, .int .i64 y, .pointer (some ⟨b, 0, none⟩)] w fun e w' => e = .returned (pair ((bits BinOp.xor IntKind.i64 x y), 0)) ∧ w = w' := by
  go_enter Tryz.func122, Tryz.ntmps122
  go_wp2_with fail
  refine (xor_any x y _).mono ?_
  rintro e w1 ⟨rfl, rfl⟩
  go_wp2_with fail
  go_ret2
  exact ⟨rfl, rfl⟩
theorem id_any (x y : Int) (w : World) : Calls Tryz.prog 102 #[.int .i64 x, .int .i64 y] w fun e w' => e = .returned (.int .i64 x) ∧ w = w' := by
  go_enter Tryz.func102, Tryz.ntmps102
  go_wp2
  all_goals go_ret
  all_goals exact ⟨ret_i64 rfl, rfl⟩
theorem id_exact (b : Nat) (x y : Int) (w : World) (h : w.cell? ⟨b, 0, none⟩ = some (.func (.func 102) #[] #[])) :
    Calls Tryz.prog 122 #[.int .i64 x, .int .i64 y, .pointer (some ⟨b, 0, none⟩)] w fun e w' => e = .returned (pair (x, 0)) ∧ w = w' := by
  go_enter Tryz.func122, Tryz.ntmps122
  go_wp2_with fail
  refine (id_any x y _).mono ?_
  rintro e w1 ⟨rfl, rfl⟩
  go_wp2_with fail
  go_ret2
  exact ⟨rfl, rfl⟩
theorem sgn_any (x y : Int) (w : World) : Calls Tryz.prog 104 #[.int .i64 x, .int .i64 y] w fun e w' => e = .returned (.int .i64 (sgn x)) ∧ w = w' := by
  go_enter Tryz.func104, Tryz.ntmps104
  go_wp2
  all_goals go_ret
  all_goals exact ⟨ret_i64 (by unfold sgn; split <;> (try split) <;> omega), rfl⟩
theorem sgn_exact (b : Nat) (x y : Int) (w : World) (h : w.cell? ⟨b, 0, none⟩ = some (.func (.func 104) #[] #[])) :
    Calls Tryz.prog 122 #[.int .i64 x, .int .i64 y, .pointer (some ⟨b, 0, none⟩)] w fun e w' => e = .returned (pair ((sgn x), 0)) ∧ w = w' := by
  go_enter Tryz.func122, Tryz.ntmps122
  go_wp2_with fail
  refine (sgn_any x y _).mono ?_
  rintro e w1 ⟨rfl, rfl⟩
  go_wp2_with fail
  go_ret2
  exact ⟨rfl, rfl⟩
theorem not_any (x y : Int) (w : World) : Calls Tryz.prog 105 #[.int .i64 x, .int .i64 y] w fun e w' => e = .returned (.int .i64 (bits BinOp.xor IntKind.i64 (-1) x)) ∧ w = w' := by
  go_enter Tryz.func105, Tryz.ntmps105
  go_wp2
  all_goals go_ret
  all_goals exact ⟨ret_i64 rfl, rfl⟩
theorem not_exact (b : Nat) (x y : Int) (w : World) (h : w.cell? ⟨b, 0, none⟩ = some (.func (.func 105) #[] #[])) :
    Calls Tryz.prog 122 #[.int .i64 x, .int .i64 y, .pointer (some ⟨b, 0, none⟩)] w fun e w' => e = .returned (pair ((bits BinOp.xor IntKind.i64 (-1) x), 0)) ∧ w = w' := by
  go_enter Tryz.func122, Tryz.ntmps122
  go_wp2_with fail
  refine (not_any x y _).mono ?_
  rintro e w1 ⟨rfl, rfl⟩
  go_wp2_with fail
  go_ret2
  exact ⟨rfl, rfl⟩
end
end Go.Proofs.YtcagaaacfcpoeaaGreat
