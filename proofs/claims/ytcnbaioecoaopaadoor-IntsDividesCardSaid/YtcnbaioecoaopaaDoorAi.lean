/-
  The walks of the reference's sum, difference, product and quotients.
-/
import Derived.Test.YtcnbaioecoaopaaDoorAh
namespace Go.Proofs.YtcnbaioecoaopaaDoor
open Go.RowKit
theorem radd_any (a b : Int) (ha : inR a) (hb : inR b) (w : World) :
    Calls Tryd.prog 30 #[.int .i64 a, .int .i64 b] w fun e w' => e = .returned (pair (ovf (a + b))) ∧ w = w' := by
  unfold inR at ha hb
  rcases Int.lt_trichotomy b 0 with h | h | h
  · by_cases h2 : a < -9223372036854775808 - b
    · have HE := Lib.hid (ovf_out (n := a + b) (by unfold inR; omega))
      go_enter Tryd.func30, Tryd.ntmps30
      go_wp2
      go_ret2
      exact ⟨ret_pair rfl HE.out, rfl⟩
    · have HE := Lib.hid (ovf_in (n := a + b) (by unfold inR; omega))
      have hw : wrap64 (a + b) = a + b := wrap_in (by unfold inR; omega)
      go_enter Tryd.func30, Tryd.ntmps30
      go_wp2
      go_ret2
      exact ⟨ret_pair rfl HE.out, rfl⟩
  · subst h
    have HE := Lib.hid (show ovf (a + 0) = (a, 0) by rw [Int.add_zero]; exact ovf_in ha)
    go_enter Tryd.func30, Tryd.ntmps30
    go_wp2
    go_ret2
    exact ⟨ret_pair rfl HE.out, rfl⟩
  · by_cases h2 : 9223372036854775807 - b < a
    · have HE := Lib.hid (ovf_out (n := a + b) (by unfold inR; omega))
      go_enter Tryd.func30, Tryd.ntmps30
      go_wp2
      go_ret2
      exact ⟨ret_pair rfl HE.out, rfl⟩
    · have HE := Lib.hid (ovf_in (n := a + b) (by unfold inR; omega))
      go_enter Tryd.func30, Tryd.ntmps30
      go_wp2
      go_ret2
      exact ⟨ret_pair rfl HE.out, rfl⟩
theorem rsub_any (a b : Int) (ha : inR a) (hb : inR b) (w : World) :
    Calls Tryd.prog 27 #[.int .i64 a, .int .i64 b] w fun e w' => e = .returned (pair (ovf (a - b))) ∧ w = w' := by
  unfold inR at ha hb
  rcases Int.lt_trichotomy b 0 with h | h | h
  · by_cases h2 : 9223372036854775807 + b < a
    · have HE := Lib.hid (ovf_out (n := a - b) (by unfold inR; omega))
      go_enter Tryd.func27, Tryd.ntmps27
      go_wp2
      go_ret2
      exact ⟨ret_pair rfl HE.out, rfl⟩
    · have HE := Lib.hid (ovf_in (n := a - b) (by unfold inR; omega))
      go_enter Tryd.func27, Tryd.ntmps27
      go_wp2
      go_ret2
      exact ⟨ret_pair rfl HE.out, rfl⟩
  · subst h
    have HE := Lib.hid (show ovf (a - 0) = (a, 0) by rw [Int.sub_zero]; exact ovf_in ha)
    go_enter Tryd.func27, Tryd.ntmps27
    go_wp2
    go_ret2
    exact ⟨ret_pair rfl HE.out, rfl⟩
  · by_cases h2 : a < -9223372036854775808 + b
    · have HE := Lib.hid (ovf_out (n := a - b) (by unfold inR; omega))
      go_enter Tryd.func27, Tryd.ntmps27
      go_wp2
      go_ret2
      exact ⟨ret_pair rfl HE.out, rfl⟩
    · have HE := Lib.hid (ovf_in (n := a - b) (by unfold inR; omega))
      go_enter Tryd.func27, Tryd.ntmps27
      go_wp2
      go_ret2
      exact ⟨ret_pair rfl HE.out, rfl⟩
theorem prod_ex (x : Int × Int) : ∃ r1 r2, x = (r1, r2) := ⟨_, _, rfl⟩
theorem rmul_any (a b : Int) (ha : inR a) (hb : inR b) (w : World) :
    Calls Tryd.prog 31 #[.int .i64 a, .int .i64 b] w fun e w' => e = .returned (pair (ovf (a * b))) ∧ w = w' := by
  have hz : ovf 0 = (0, 0) := ovf_in (by decide)
  by_cases ha0 : a = 0
  · subst ha0
    have HE : Hid (ovf (0 * b) = (0, 0)) := Lib.hid (by rw [Int.zero_mul, hz])
    clear hz ha hb
    go_enter Tryd.func31, Tryd.ntmps31
    go_wp2
    go_ret2
    exact ⟨ret_pair rfl HE.out, rfl⟩
  · by_cases hb0 : b = 0
    · subst hb0
      have HE : Hid (ovf (a * 0) = (0, 0)) := Lib.hid (by rw [Int.mul_zero, hz])
      clear hz ha hb
      go_enter Tryd.func31, Tryd.ntmps31
      go_wp2
      go_ret2
      exact ⟨ret_pair rfl HE.out, rfl⟩
    · have ba : (a == 0) = false := by simpa using ha0
      have bb : (b == 0) = false := by simpa using hb0
      have e0 : ∀ x : Int, ovf (0 - x) = ovf (-x) := fun x => by rw [Int.zero_sub]
      by_cases h1 : a = -1
      · subst h1
        have HE := Lib.hid (show ovf (0 - b) = ovf (-1 * b) by rw [Int.neg_mul, Int.one_mul, Int.zero_sub])
        have HB := Lib.hid hb
        clear hz ha hb e0
        go_enter Tryd.func31, Tryd.ntmps31
        go_wp2_with fail
        refine (rsub_any 0 b (by decide) HB.out _).mono ?_
        rintro e w1 ⟨rfl, rfl⟩
        obtain ⟨r1, r2, hr⟩ := prod_ex (ovf (0 - b))
        rw [hr, pair]
        have HR := Lib.hid hr
        clear hr
        go_wp2_with fail
        go_ret2
        exact ⟨ret_pair rfl (HE.out.symm.trans HR.out), rfl⟩
      have a1 : (a == -1) = false := by simpa using h1
      by_cases h2 : b = -1
      · subst h2
        have HE := Lib.hid (show ovf (0 - a) = ovf (a * -1) by rw [Int.mul_neg, Int.mul_one, Int.zero_sub])
        have HA := Lib.hid ha
        clear hz ha hb e0 h1
        go_enter Tryd.func31, Tryd.ntmps31
        go_wp2_with fail
        refine (rsub_any 0 a (by decide) HA.out _).mono ?_
        rintro e w1 ⟨rfl, rfl⟩
        obtain ⟨r1, r2, hr⟩ := prod_ex (ovf (0 - a))
        rw [hr, pair]
        have HR := Lib.hid hr
        clear hr
        go_wp2_with fail
        go_ret2
        exact ⟨ret_pair rfl (HE.out.symm.trans HR.out), rfl⟩
      have b1 : (b == -1) = false := by simpa using h2
      by_cases hk : wrap64 ((wrap64 (a * b)).tdiv b) = a
      · have hin := times_key ha hb hb0 (fun h => h2 h.1) hk
        have HE := Lib.hid (ovf_in hin)
        have HW := Lib.hid (wrap_in hin)
        have bk : (wrap64 ((wrap64 (a * b)).tdiv b) != a) = false := by simpa using hk
        clear hz hin ha hb e0 h1 h2 hk
        go_enter Tryd.func31, Tryd.ntmps31
        go_wp2
        go_ret2
        exact ⟨ret_pair HW.out HE.out, rfl⟩
      · have hin : ¬ inR (a * b) := fun h => hk (times_ok ha hb0 h)
        have HE := Lib.hid (ovf_out hin)
        have bk : (wrap64 ((wrap64 (a * b)).tdiv b) != a) = true := by simpa using hk
        clear hz hin ha hb e0 h1 h2 hk
        go_enter Tryd.func31, Tryd.ntmps31
        go_wp2
        go_ret2
        exact ⟨ret_pair rfl HE.out, rfl⟩
theorem rquot_any (a b : Int) (ha : inR a) (hb : b ≠ 0) (w : World) :
    Calls Tryd.prog 35 #[.int .i64 a, .int .i64 b] w fun e w' => e = .returned (pair (quo a b)) ∧ w = w' := by
  by_cases h2 : b = -1
  · subst h2
    have HE := Lib.hid (show quo a (-1) = ovf (0 - a) by unfold quo; rw [if_neg (by decide), Int.tdiv_neg, Int.tdiv_one, Int.zero_sub])
    have HA := Lib.hid ha
    clear ha hb
    go_enter Tryd.func35, Tryd.ntmps35
    go_wp2_with fail
    refine (rsub_any 0 a (by decide) HA.out _).mono ?_
    rintro e w1 ⟨rfl, rfl⟩
    obtain ⟨r1, r2, hr⟩ := prod_ex (ovf (0 - a))
    rw [hr, pair]
    have HR := Lib.hid hr
    clear hr
    go_wp2_with fail
    go_ret2
    exact ⟨ret_pair rfl (HE.out.trans HR.out), rfl⟩
  · have b1 : (b == -1) = false := by simpa using h2
    have hq := tdiv_in ha hb (fun h => h2 h.2)
    have HW := Lib.hid (wrap_in hq)
    have HE := Lib.hid (show quo a b = (a.tdiv b, 0) by unfold quo; rw [if_neg hb, ovf_in hq])
    have b0 : (b == 0) = false := by simpa using hb
    clear ha hq h2
    go_enter Tryd.func35, Tryd.ntmps35
    go_wp2
    go_ret2
    exact ⟨ret_pair HW.out HE.out, rfl⟩
theorem rrem_any (a b : Int) (ha : inR a) (hb : b ≠ 0) (w : World) :
    Calls Tryd.prog 36 #[.int .i64 a, .int .i64 b] w fun e w' => e = .returned (.int .i64 (a.tmod b)) ∧ w = w' := by
  by_cases h2 : b = -1
  · subst h2
    have HE := Lib.hid (show a.tmod (-1) = 0 by rw [Int.tmod_neg, Int.tmod_one])
    clear ha hb
    go_enter Tryd.func36, Tryd.ntmps36
    go_wp2
    go_ret
    exact ⟨ret_i64 HE.out.symm, rfl⟩
  · have b1 : (b == -1) = false := by simpa using h2
    have b0 : (b == 0) = false := by simpa using hb
    have hq := tdiv_in ha hb (fun h => h2 h.2)
    have hd := Int.mul_tdiv_add_tmod a b
    have hm := Int.mul_comm b (a.tdiv b)
    have hn : (a.tmod b).natAbs ≤ a.natAbs := by rw [Int.natAbs_tmod]; exact Nat.mod_le _ _
    have hs1 : 0 ≤ a → 0 ≤ a.tmod b := fun h => Int.tmod_nonneg b h
    have hs2 : a ≤ 0 → a.tmod b ≤ 0 := fun h => by have := Int.tmod_nonneg (a := -a) b (by omega); rw [Int.neg_tmod] at this; omega
    have HW := Lib.hid (show wrap64 (a - wrap64 (wrap64 (a.tdiv b) * b)) = a.tmod b by
      rw [wrap_in hq, wrap_in (n := a.tdiv b * b) (by unfold inR at *; omega), wrap_in (by unfold inR at *; omega)]; omega)
    clear ha hq h2 hd hm hn hs1 hs2
    go_enter Tryd.func36, Tryd.ntmps36
    go_wp2
    go_ret
    exact ⟨ret_i64 HW.out, rfl⟩
end Go.Proofs.YtcnbaioecoaopaaDoor
