/-
  The walks of the reference's functions.
-/
import Derived.Test.YtcagaaacfcpoeaaGreatAn
import Derived.Deep.QuietTactic
import Derived.BigQuiet
namespace Go.Proofs.YtcagaaacfcpoeaaGreat
open Go.RowKit

theorem radd_any (a b : Int) (ha : inR a) (hb : inR b) (w : World) :
    Calls Tryz.prog 47 #[.int .i64 a, .int .i64 b] w fun e w' => e = .returned (pair (ovf (a + b))) ∧ w = w' := by
  unfold inR at ha hb
  rcases Int.lt_trichotomy b 0 with h | h | h
  · by_cases h2 : a < -9223372036854775808 - b
    · have HE := Lib.hid (ovf_out (n := a + b) (by unfold inR; omega))
      go_enter Tryz.func47, Tryz.ntmps47
      go_wp2
      go_ret2
      exact ⟨ret_pair rfl HE.out, rfl⟩
    · have HE := Lib.hid (ovf_in (n := a + b) (by unfold inR; omega))
      have hw : wrap64 (a + b) = a + b := wrap_in (by unfold inR; omega)
      go_enter Tryz.func47, Tryz.ntmps47
      go_wp2
      go_ret2
      exact ⟨ret_pair rfl HE.out, rfl⟩
  · subst h
    have HE := Lib.hid (show ovf (a + 0) = (a, 0) by rw [Int.add_zero]; exact ovf_in ha)
    go_enter Tryz.func47, Tryz.ntmps47
    go_wp2
    go_ret2
    exact ⟨ret_pair rfl HE.out, rfl⟩
  · by_cases h2 : 9223372036854775807 - b < a
    · have HE := Lib.hid (ovf_out (n := a + b) (by unfold inR; omega))
      go_enter Tryz.func47, Tryz.ntmps47
      go_wp2
      go_ret2
      exact ⟨ret_pair rfl HE.out, rfl⟩
    · have HE := Lib.hid (ovf_in (n := a + b) (by unfold inR; omega))
      go_enter Tryz.func47, Tryz.ntmps47
      go_wp2
      go_ret2
      exact ⟨ret_pair rfl HE.out, rfl⟩
theorem rsub_any (a b : Int) (ha : inR a) (hb : inR b) (w : World) :
    Calls Tryz.prog 48 #[.int .i64 a, .int .i64 b] w fun e w' => e = .returned (pair (ovf (a - b))) ∧ w = w' := by
  unfold inR at ha hb
  rcases Int.lt_trichotomy b 0 with h | h | h
  · by_cases h2 : 9223372036854775807 + b < a
    · have HE := Lib.hid (ovf_out (n := a - b) (by unfold inR; omega))
      go_enter Tryz.func48, Tryz.ntmps48
      go_wp2
      go_ret2
      exact ⟨ret_pair rfl HE.out, rfl⟩
    · have HE := Lib.hid (ovf_in (n := a - b) (by unfold inR; omega))
      go_enter Tryz.func48, Tryz.ntmps48
      go_wp2
      go_ret2
      exact ⟨ret_pair rfl HE.out, rfl⟩
  · subst h
    have HE := Lib.hid (show ovf (a - 0) = (a, 0) by rw [Int.sub_zero]; exact ovf_in ha)
    go_enter Tryz.func48, Tryz.ntmps48
    go_wp2
    go_ret2
    exact ⟨ret_pair rfl HE.out, rfl⟩
  · by_cases h2 : a < -9223372036854775808 + b
    · have HE := Lib.hid (ovf_out (n := a - b) (by unfold inR; omega))
      go_enter Tryz.func48, Tryz.ntmps48
      go_wp2
      go_ret2
      exact ⟨ret_pair rfl HE.out, rfl⟩
    · have HE := Lib.hid (ovf_in (n := a - b) (by unfold inR; omega))
      go_enter Tryz.func48, Tryz.ntmps48
      go_wp2
      go_ret2
      exact ⟨ret_pair rfl HE.out, rfl⟩
theorem rmul_any (a b : Int) (ha : inR a) (hb : inR b) (w : World) :
    Calls Tryz.prog 49 #[.int .i64 a, .int .i64 b] w fun e w' => e = .returned (pair (ovf (a * b))) ∧ w = w' := by
  have hz : ovf 0 = (0, 0) := ovf_in (by decide)
  by_cases ha0 : a = 0
  · subst ha0
    have HE : Hid (ovf (0 * b) = (0, 0)) := Lib.hid (by rw [Int.zero_mul, hz])
    clear hz ha hb
    go_enter Tryz.func49, Tryz.ntmps49
    go_wp2
    go_ret2
    exact ⟨ret_pair rfl HE.out, rfl⟩
  · by_cases hb0 : b = 0
    · subst hb0
      have HE : Hid (ovf (a * 0) = (0, 0)) := Lib.hid (by rw [Int.mul_zero, hz])
      clear hz ha hb
      go_enter Tryz.func49, Tryz.ntmps49
      go_wp2
      go_ret2
      exact ⟨ret_pair rfl HE.out, rfl⟩
    · have ba : (a == 0) = false := by simpa using ha0
      have bb : (b == 0) = false := by simpa using hb0
      have e0 : ∀ x : Int, ovf (0 - x) = ovf (-x) := fun x => by rw [Int.zero_sub]
      by_cases h1 : a = -1
      · subst h1
        have HE := Lib.hid (show ovf (0 - b) = ovf (-1 * b) by rw [Int.neg_mul, Int.one_mul, Int.zero_sub])
        have HB := Lib.hid hb
        clear hz ha hb e0
        go_enter Tryz.func49, Tryz.ntmps49
        go_wp2_with fail
        refine (rsub_any 0 b (by decide) HB.out _).mono ?_
        rintro e w1 ⟨rfl, rfl⟩
        obtain ⟨r1, r2, hr⟩ := prod_ex (ovf (0 - b))
        rw [hr, pair]
        have HR := Lib.hid hr
        clear hr
        go_wp2_with fail
        go_ret2
        exact ⟨ret_pair rfl (HE.out.symm.trans HR.out), rfl⟩
      have a1 : (a == -1) = false := by simpa using h1
      by_cases h2 : b = -1
      · subst h2
        have HE := Lib.hid (show ovf (0 - a) = ovf (a * -1) by rw [Int.mul_neg, Int.mul_one, Int.zero_sub])
        have HA := Lib.hid ha
        clear hz ha hb e0 h1
        go_enter Tryz.func49, Tryz.ntmps49
        go_wp2_with fail
        refine (rsub_any 0 a (by decide) HA.out _).mono ?_
        rintro e w1 ⟨rfl, rfl⟩
        obtain ⟨r1, r2, hr⟩ := prod_ex (ovf (0 - a))
        rw [hr, pair]
        have HR := Lib.hid hr
        clear hr
        go_wp2_with fail
        go_ret2
        exact ⟨ret_pair rfl (HE.out.symm.trans HR.out), rfl⟩
      have b1 : (b == -1) = false := by simpa using h2
      by_cases hk : wrap64 ((wrap64 (a * b)).tdiv b) = a
      · have hin := times_key ha hb hb0 (fun h => h2 h.1) hk
        have HE := Lib.hid (ovf_in hin)
        have HW := Lib.hid (wrap_in hin)
        have bk : (wrap64 ((wrap64 (a * b)).tdiv b) != a) = false := by simpa using hk
        clear hz hin ha hb e0 h1 h2 hk
        go_enter Tryz.func49, Tryz.ntmps49
        go_wp2
        go_ret2
        exact ⟨ret_pair HW.out HE.out, rfl⟩
      · have hin : ¬ inR (a * b) := fun h => hk (times_ok ha hb0 h)
        have HE := Lib.hid (ovf_out hin)
        have bk : (wrap64 ((wrap64 (a * b)).tdiv b) != a) = true := by simpa using hk
        clear hz hin ha hb e0 h1 h2 hk
        go_enter Tryz.func49, Tryz.ntmps49
        go_wp2
        go_ret2
        exact ⟨ret_pair rfl HE.out, rfl⟩
theorem rquot_any (a b : Int) (ha : inR a) (hb : b ≠ 0) (w : World) :
    Calls Tryz.prog 53 #[.int .i64 a, .int .i64 b] w fun e w' => e = .returned (pair (quo a b)) ∧ w = w' := by
  by_cases h2 : b = -1
  · subst h2
    have HE := Lib.hid (show quo a (-1) = ovf (0 - a) by unfold quo; rw [if_neg (by decide), Int.tdiv_neg, Int.tdiv_one, Int.zero_sub])
    have HA := Lib.hid ha
    clear ha hb
    go_enter Tryz.func53, Tryz.ntmps53
    go_wp2_with fail
    refine (rsub_any 0 a (by decide) HA.out _).mono ?_
    rintro e w1 ⟨rfl, rfl⟩
    obtain ⟨r1, r2, hr⟩ := prod_ex (ovf (0 - a))
    rw [hr, pair]
    have HR := Lib.hid hr
    clear hr
    go_wp2_with fail
    go_ret2
    exact ⟨ret_pair rfl (HE.out.trans HR.out), rfl⟩
  · have b1 : (b == -1) = false := by simpa using h2
    have hq := tdiv_in ha hb (fun h => h2 h.2)
    have HW := Lib.hid (wrap_in hq)
    have HE := Lib.hid (show quo a b = (a.tdiv b, 0) by unfold quo; rw [if_neg hb, ovf_in hq])
    have b0 : (b == 0) = false := by simpa using hb
    clear ha hq h2
    go_enter Tryz.func53, Tryz.ntmps53
    go_wp2
    go_ret2
    exact ⟨ret_pair HW.out HE.out, rfl⟩
theorem rrem_any (a b : Int) (ha : inR a) (hb : b ≠ 0) (w : World) :
    Calls Tryz.prog 54 #[.int .i64 a, .int .i64 b] w fun e w' => e = .returned (.int .i64 (a.tmod b)) ∧ w = w' := by
  by_cases h2 : b = -1
  · subst h2
    have HE := Lib.hid (show a.tmod (-1) = 0 by rw [Int.tmod_neg, Int.tmod_one])
    clear ha hb
    go_enter Tryz.func54, Tryz.ntmps54
    go_wp2
    go_ret
    exact ⟨ret_i64 HE.out.symm, rfl⟩
  · have b1 : (b == -1) = false := by simpa using h2
    have b0 : (b == 0) = false := by simpa using hb
    have hq := tdiv_in ha hb (fun h => h2 h.2)
    have hd := Int.mul_tdiv_add_tmod a b
    have hm := Int.mul_comm b (a.tdiv b)
    have hn : (a.tmod b).natAbs ≤ a.natAbs := by rw [Int.natAbs_tmod]; exact Nat.mod_le _ _
    have hs1 : 0 ≤ a → 0 ≤ a.tmod b := fun h => Int.tmod_nonneg b h
    have hs2 : a ≤ 0 → a.tmod b ≤ 0 := fun h => by have := Int.tmod_nonneg (a := -a) b (by omega); rw [Int.neg_tmod] at this; omega
    have HW := Lib.hid (show wrap64 (a - wrap64 (wrap64 (a.tdiv b) * b)) = a.tmod b by
      rw [wrap_in hq, wrap_in (n := a.tdiv b * b) (by unfold inR at *; omega), wrap_in (by unfold inR at *; omega)]; omega)
    clear ha hq h2 hd hm hn hs1 hs2
    go_enter Tryz.func54, Tryz.ntmps54
    go_wp2
    go_ret
    exact ⟨ret_i64 HW.out, rfl⟩

theorem rdiv_any (a b : Int) (ha : inR a) (hb : b ≠ 0) (w : World) :
    Calls Tryz.prog 55 #[.int .i64 a, .int .i64 b] w fun e w' => e = .returned (pair (flr a b)) ∧ w = w' := by
  go_enter Tryz.func55, Tryz.ntmps55
  go_wp2_with fail
  refine (rquot_any a b ha hb _).mono ?_
  rintro e w1 ⟨rfl, rfl⟩
  by_cases h1 : a = -9223372036854775808 ∧ b = -1
  · obtain ⟨rfl, rfl⟩ := h1
    rw [show quo (-9223372036854775808) (-1) = (0, 10) from by decide, pair]
    go_wp2_with fail
    go_ret2
    exact ⟨ret_pair rfl (by decide), rfl⟩
  · have hq := tdiv_in ha hb h1
    have hf := flr_ok hb h1
    have hw := fun h => flr_wrap ha hb h1 h
    rw [show quo a b = (a.tdiv b, 0) by unfold quo; rw [if_neg hb, ovf_in hq], pair]
    have HA := Lib.hid ha
    have HF := Lib.hid hf
    have HW := Lib.hid hw
    have HB := Lib.hid hb
    clear hq hf hw ha h1 hb
    go_wp2_with fail
    refine (rrem_any a b HA.out HB.out _).mono ?_
    rintro e w1 ⟨rfl, rfl⟩
    have hO : off a b ↔ (Int.tmod a b < 0 ∧ 0 < b) ∨ (0 < Int.tmod a b ∧ b < 0) := Iff.rfl
    have HO := Lib.hid hO
    clear hO
    generalize hr : a.tmod b = r at *
    have HR := Lib.hid hr
    clear hr
    have hb := HB.out
    rcases Int.lt_trichotomy b 0 with hb1 | hb1 | hb1
    · by_cases hr1 : 0 < r
      · have ho := HO.out.2 (.inr ⟨hr1, hb1⟩)
        have HW2 := Lib.hid (HW.out ho)
        have HE := Lib.hid (show flr a b = (a.tdiv b - 1, 0) by rw [HF.out, if_pos ho])
        clear ho hb
        go_wp2_with fail
        go_ret2
        exact ⟨ret_pair (wrap_in HW2.out) HE.out, rfl⟩
      · have HE := Lib.hid (show flr a b = (a.tdiv b, 0) by rw [HF.out, if_neg (fun h => by have := HO.out.1 h; omega), Int.sub_zero])
        clear hb
        go_wp2_with fail
        all_goals (go_ret2; exact ⟨ret_pair rfl HE.out, rfl⟩)
    · exact absurd hb1 hb
    · by_cases hr1 : r < 0
      · have ho := HO.out.2 (.inl ⟨hr1, hb1⟩)
        have HW2 := Lib.hid (HW.out ho)
        have HE := Lib.hid (show flr a b = (a.tdiv b - 1, 0) by rw [HF.out, if_pos ho])
        clear ho hb
        go_wp2_with fail
        go_ret2
        exact ⟨ret_pair (wrap_in HW2.out) HE.out, rfl⟩
      · have HE := Lib.hid (show flr a b = (a.tdiv b, 0) by rw [HF.out, if_neg (fun h => by have := HO.out.1 h; omega), Int.sub_zero])
        clear hb
        go_wp2_with fail
        all_goals (go_ret2; exact ⟨ret_pair rfl HE.out, rfl⟩)
theorem rmod_any (a b : Int) (ha : inR a) (hbr : inR b) (hb : b ≠ 0) (w : World) :
    Calls Tryz.prog 56 #[.int .i64 a, .int .i64 b] w fun e w' => e = .returned (.int .i64 (mdl a b).1) ∧ w = w' := by
  have hm := tmod_in (a := a) hbr hb
  have he : (mdl a b).1 = a.tmod b + (if off a b then b else 0) := by unfold mdl; rw [if_neg hb]
  have HA := Lib.hid ha
  have HB := Lib.hid hb
  have HE := Lib.hid he
  have HM := Lib.hid hm
  clear he hm ha hbr hb
  go_enter Tryz.func56, Tryz.ntmps56
  go_wp2_with fail
  refine (rrem_any a b HA.out HB.out _).mono ?_
  rintro e w1 ⟨rfl, rfl⟩
  have hO : off a b ↔ (Int.tmod a b < 0 ∧ 0 < b) ∨ (0 < Int.tmod a b ∧ b < 0) := Iff.rfl
  have HO := Lib.hid hO
  clear hO
  generalize hr : a.tmod b = r at *
  have HR := Lib.hid hr
  clear hr
  have hb := HB.out
  rcases Int.lt_trichotomy b 0 with hb1 | hb1 | hb1
  · by_cases hr1 : 0 < r
    · have ho := HO.out.2 (.inr ⟨hr1, hb1⟩)
      have HW2 := Lib.hid (show wrap64 (r + b) = (mdl a b).1 by have := HM.out.2; have e := HE.out; rw [if_pos ho] at this e; rw [e, wrap_in this])
      clear ho hb
      go_wp2_with fail
      go_ret
      exact ⟨ret_i64 HW2.out, rfl⟩
    · have HE2 := Lib.hid (show r = (mdl a b).1 by rw [HE.out, if_neg (fun h => by have := HO.out.1 h; omega), Int.add_zero])
      clear hb
      go_wp2_with fail
      all_goals (go_ret; exact ⟨ret_i64 HE2.out, rfl⟩)
  · exact absurd hb1 hb
  · by_cases hr1 : r < 0
    · have ho := HO.out.2 (.inl ⟨hr1, hb1⟩)
      have HW2 := Lib.hid (show wrap64 (r + b) = (mdl a b).1 by have := HM.out.2; have e := HE.out; rw [if_pos ho] at this e; rw [e, wrap_in this])
      clear ho hb
      go_wp2_with fail
      go_ret
      exact ⟨ret_i64 HW2.out, rfl⟩
    · have HE2 := Lib.hid (show r = (mdl a b).1 by rw [HE.out, if_neg (fun h => by have := HO.out.1 h; omega), Int.add_zero])
      clear hb
      go_wp2_with fail
      all_goals (go_ret; exact ⟨ret_i64 HE2.out, rfl⟩)
theorem rpower_any (a b : Int) (ha : inR a) (hb : inR b) (w : World) : Calls Tryz.prog 51 #[.int .i64 a, .int .i64 b] w fun e w' => e = .returned (pair (pw a b)) ∧ w = w' := by
  by_cases h1 : a = 1
  · subst h1
    have HE := Lib.hid (pw_one b)
    clear ha hb
    go_enter Tryz.func51, Tryz.ntmps51
    go_wp2
    go_ret2
    exact ⟨ret_pair rfl HE.out, rfl⟩
  have e1 : (a == 1) = false := by simpa using h1
  by_cases hz : b = 0
  · subst hz
    have HE := Lib.hid (pw_zz a)
    clear ha hb h1
    go_enter Tryz.func51, Tryz.ntmps51
    go_wp2
    go_ret2
    exact ⟨ret_pair rfl HE.out, rfl⟩
  have ez : (b == 0) = false := by simpa using hz
  by_cases h2 : a = -1
  · subst h2
    have he := pw_neg b
    by_cases h3 : b % 2 = 0
    · have ht : (b.tmod 2 == 0) = true := by simpa using (tmod_two b).2 h3
      rw [if_pos h3] at he
      have HE := Lib.hid he
      clear ha hb h1 h3 he hz
      go_enter Tryz.func51, Tryz.ntmps51
      go_wp2
      go_ret2
      exact ⟨ret_pair rfl HE.out, rfl⟩
    · have ht : (b.tmod 2 == 0) = false := by simpa using fun h => h3 ((tmod_two b).1 h)
      rw [if_neg h3] at he
      have HE := Lib.hid he
      clear ha hb h1 h3 he hz
      go_enter Tryz.func51, Tryz.ntmps51
      go_wp2
      go_ret2
      exact ⟨ret_pair rfl HE.out, rfl⟩
  have e2 : (a == -1) = false := by simpa using h2
  by_cases h3 : a = 0
  · subst h3
    by_cases h4 : b < 0
    · have HE := Lib.hid (pw_zneg h4)
      clear ha hb h1 h2 hz
      go_enter Tryz.func51, Tryz.ntmps51
      go_wp2
      go_ret2
      exact ⟨ret_pair rfl HE.out, rfl⟩
    · have h5 : 0 < b := by omega
      have HE := Lib.hid (pw_zpos h5)
      clear ha hb h1 h2 h4 hz
      go_enter Tryz.func51, Tryz.ntmps51
      go_wp2
      go_ret2
      exact ⟨ret_pair rfl HE.out, rfl⟩
  have e3 : (a == 0) = false := by simpa using h3
  have h4 : 2 ≤ a.natAbs := by omega
  by_cases h5 : b < 0
  · have HE := Lib.hid (pw_und h4 h5)
    clear ha hb h1 h2 h3 hz
    go_enter Tryz.func51, Tryz.ntmps51
    go_wp2
    go_ret2
    exact ⟨ret_pair rfl HE.out, rfl⟩
  have HA := Lib.hid ha
  have H4 := Lib.hid h4
  have hb0 : 0 < b := by omega
  have hb1 : b ≤ 9223372036854775807 := hb.2
  clear ha hb h1 h2 h3 h4 h5 hz
  go_enter Tryz.func51, Tryz.ntmps51
  go_wp2
  go_loop [6, 7] (fun n i => ∃ k : Nat, (k : Int) ≤ b ∧ i = .int .i64 (k : Int) ∧ ∃ x : Int, n = .int .i64 x ∧ Hid (x = a ^ k) ∧ Hid (inR x)) (fun _ i => (b - (intOf i)).toNat)
  case atStart => exact ⟨0, by omega, rfl, 1, rfl, Lib.hid (Int.pow_zero a).symm, Lib.hid (by decide)⟩
  case round =>
    obtain ⟨k, hk, rfl, x, rfl, HX, HR⟩ := hrel
    by_cases h7 : (k : Int) < b
    · go_wp2_with fail
      refine (rmul_any x a HR.out HA.out _).mono ?_
      rintro e w1 ⟨rfl, rfl⟩
      by_cases h8 : inR (x * a)
      · rw [ovf_in h8, pair]
        have H8 := Lib.hid h8
        clear h8
        go_wp2_with fail
        exact ⟨⟨k + 1, by omega, by go_num, x * a, rfl, Lib.hid (by rw [HX.out, Int.pow_succ]), H8⟩, by simp [intOf]; omega⟩
      · rw [ovf_out h8, pair]
        have HP := Lib.hid (pw_out (b := b) (k := k + 1) H4.out (by omega) (by omega) (by rw [Int.pow_succ, ← HX.out]; exact h8))
        clear h8
        go_wp2_with fail
        go_ret2
        exact ⟨ret_pair rfl HP.out, rfl⟩
    · have HP := Lib.hid (pw_in (b := b) (k := k) H4.out (by omega) (by rw [← HX.out]; exact HR.out))
      go_wp2_with fail
      go_ret2
      exact ⟨ret_pair HX.out HP.out, rfl⟩
theorem rleft_any (a b : Int) (ha : inR a) (w : World) : Calls Tryz.prog 50 #[.int .i64 a, .int .i64 b, .bool true] w fun e w' => e = .returned (pair (shl a b)) ∧ w = w' := by
  by_cases h : b < 0 ∨ 63 < b
  · have HE := Lib.hid (shl_und (a := a) h)
    clear ha
    rcases h with h | h
    · go_enter Tryz.func50, Tryz.ntmps50
      go_wp2
      go_ret2
      exact ⟨ret_pair rfl HE.out, rfl⟩
    · go_enter Tryz.func50, Tryz.ntmps50
      go_wp2
      go_ret2
      exact ⟨ret_pair rfl HE.out, rfl⟩
  have h0 : 0 ≤ b := by omega
  have h1 : b ≤ 63 := by omega
  have HA := Lib.hid ha
  clear h ha
  go_enter Tryz.func50, Tryz.ntmps50
  go_wp2_with fail
  go_loop [0, 8] (fun n i => ∃ k : Nat, (k : Int) ≤ b ∧ i = .int .i64 (k : Int) ∧ ∃ x : Int, n = .int .i64 x ∧ Hid (x = a * 2 ^ k) ∧ Hid (inR x)) (fun _ i => (b - (intOf i)).toNat)
  case atStart => exact ⟨0, by omega, rfl, a, rfl, Lib.hid (by rw [Int.pow_zero, Int.mul_one]), HA⟩
  case round =>
    obtain ⟨k, hk, rfl, x, rfl, HX, HR⟩ := hrel
    by_cases h7 : (k : Int) < b
    · have e : x + x = a * 2 ^ (k + 1) := by rw [HX.out, Int.pow_succ, ← Int.mul_assoc]; omega
      have HE := Lib.hid e
      clear e
      go_wp2_with fail
      refine (radd_any x x HR.out HR.out _).mono ?_
      rintro e w1 ⟨rfl, rfl⟩
      by_cases h8 : inR (x + x)
      · rw [ovf_in h8, pair]
        have H8 := Lib.hid h8
        clear h8
        go_wp2_with fail
        exact ⟨⟨k + 1, by omega, by go_num, x + x, rfl, HE, H8⟩, by simp [intOf]; omega⟩
      · rw [ovf_out h8, pair]
        have HP := Lib.hid (shl_out (a := a) (b := b) (k := k + 1) (by omega) h1 (by rw [← HE.out]; exact h8))
        clear h8
        go_wp2_with fail
        go_ret2
        exact ⟨ret_pair rfl HP.out, rfl⟩
    · have HP := Lib.hid (shl_in (a := a) (b := b) (k := k) (by omega) h1 (by rw [← HX.out]; exact HR.out))
      go_wp2_with fail
      go_ret2
      exact ⟨ret_pair HX.out HP.out, rfl⟩
theorem rright_any (a b : Int) (ha : inR a) (w : World) : Calls Tryz.prog 50 #[.int .i64 a, .int .i64 b, .bool false] w fun e w' => e = .returned (pair (shr a b)) ∧ w = w' := by
  by_cases h : b < 0 ∨ 63 < b
  · have HE := Lib.hid (shr_und (a := a) h)
    clear ha
    rcases h with h | h
    · go_enter Tryz.func50, Tryz.ntmps50
      go_wp2
      go_ret2
      exact ⟨ret_pair rfl HE.out, rfl⟩
    · go_enter Tryz.func50, Tryz.ntmps50
      go_wp2
      go_ret2
      exact ⟨ret_pair rfl HE.out, rfl⟩
  have h0 : 0 ≤ b := by omega
  have h1 : b ≤ 63 := by omega
  have HA := Lib.hid ha
  clear h ha
  go_enter Tryz.func50, Tryz.ntmps50
  go_wp2_with fail
  go_loop [0, 8] (fun n i => ∃ k : Nat, (k : Int) ≤ b ∧ i = .int .i64 (k : Int) ∧ ∃ x : Int, n = .int .i64 x ∧ Hid (x = a / 2 ^ k) ∧ Hid (inR x)) (fun _ i => (b - (intOf i)).toNat)
  case atStart => exact ⟨0, by omega, rfl, a, rfl, Lib.hid (by rw [Int.pow_zero, Int.ediv_one]), HA⟩
  case round =>
    obtain ⟨k, hk, rfl, x, rfl, HX, HR⟩ := hrel
    by_cases h7 : (k : Int) < b
    · have HE := Lib.hid (show x / 2 = a / 2 ^ (k + 1) by rw [HX.out, div_pow])
      go_wp2_with fail
      refine (rdiv_any x 2 HR.out (by decide) _).mono ?_
      rintro e w1 ⟨rfl, rfl⟩
      rw [half, pair]
      go_wp2_with fail
      exact ⟨⟨k + 1, by omega, by go_num, x / 2, rfl, HE, Lib.hid (ediv_in HR.out)⟩, by simp [intOf]; omega⟩
    · have HP := Lib.hid (shr_in (a := a) (b := b) (k := k) (by omega) h1)
      go_wp2_with fail
      go_ret2
      exact ⟨ret_pair HX.out HP.out, rfl⟩
theorem rgcd_any (a b : Int) (ha : inR a) (hb : inR b) (w : World) : Calls Tryz.prog 52 #[.int .i64 a, .int .i64 b] w fun e w' => e = .returned (pair (gcdE a b)) ∧ w = w' := by
  have HA := Lib.hid ha
  have HB := Lib.hid hb
  clear ha hb
  go_enter Tryz.func52, Tryz.ntmps52
  go_wp2_with fail
  go_loop [0, 1] (fun x y => ∃ m n : Int, x = .int .i64 m ∧ y = .int .i64 n ∧ Hid (inR m ∧ inR n ∧ Int.gcd m n = Int.gcd a b)) (fun _ y => (intOf y).natAbs)
  case atStart => exact ⟨a, b, rfl, rfl, Lib.hid ⟨HA.out, HB.out, rfl⟩⟩
  case round =>
    obtain ⟨m, n, rfl, rfl, HG⟩ := hrel
    by_cases h0 : n = 0
    · subst h0
      have hg : gcdE a b = ovf (m.natAbs : Int) := by have := HG.out.2.2; rw [Int.gcd_zero_right] at this; unfold gcdE; rw [← this]
      by_cases hm : m < 0
      · have HE := Lib.hid (show gcdE a b = ovf (0 - m) by rw [hg]; congr 1; omega)
        clear hg
        go_wp2_with fail
        refine (rsub_any 0 m (by decide) HG.out.1 _).mono ?_
        rintro e w1 ⟨rfl, rfl⟩
        obtain ⟨r1, r2, hr⟩ := prod_ex (ovf (0 - m))
        rw [hr, pair]
        have HR := Lib.hid hr
        clear hr
        go_wp2_with fail
        go_ret2
        exact ⟨ret_pair rfl (HE.out.trans HR.out), rfl⟩
      · have HE := Lib.hid (show gcdE a b = (m, 0) by rw [hg, show (m.natAbs : Int) = m by omega, ovf_in HG.out.1])
        clear hg
        go_wp2_with fail
        go_ret2
        exact ⟨ret_pair rfl HE.out, rfl⟩
    · have hn0 : (n == 0) = false := by simpa using h0
      have hn1 : (n != 0) = true := by simpa using h0
      have hlt : (m.tmod n).natAbs < n.natAbs := by rw [Int.natAbs_tmod]; exact Nat.mod_lt _ (by omega)
      have HN := Lib.hid h0
      have HL := Lib.hid hlt
      clear h0 hlt
      go_wp2_with fail
      refine (rrem_any m n HG.out.1 HN.out _).mono ?_
      rintro e w1 ⟨rfl, rfl⟩
      have HT := Lib.hid (tmod_in (a := m) HG.out.2.1 HN.out).1
      have HS := Lib.hid ((gcd_step m n).trans HG.out.2.2)
      go_wp2_with fail
      exact ⟨⟨n, m.tmod n, rfl, rfl, Lib.hid ⟨HG.out.2.1, HT.out, HS.out⟩⟩, HL.out⟩

theorem not_eq {a : Int} (ha : inR a) : bits BinOp.xor IntKind.i64 (-1) a = -1 - a := by
  have h1 : (BitVec.ofInt 64 (-1) ^^^ BitVec.ofInt 64 a).toNat = 18446744073709551615 - (a % 18446744073709551616).toNat := by
    have e : BitVec.ofInt 64 (-1) = BitVec.allOnes 64 := by decide
    rw [e, BitVec.allOnes_xor, BitVec.toNat_not, BitVec.toNat_ofInt]
    rfl
  show IntKind.i64.wrap ((BitVec.ofInt 64 (-1) ^^^ BitVec.ofInt 64 a).toNat : Int) = _
  rw [h1, IntKind.wrap_i64]
  unfold inR at ha
  omega
set_option maxRecDepth 100000 in
theorem RBinary_plus (a b : Int) (ha : inR a) (hb : inR b) (w : World) : Calls Tryz.prog 20 #[.string ⟨#[43]⟩, .int .i64 a, .int .i64 b] w fun e w' => e = .returned (pair (ovf (a + b))) ∧ w = w' := by
  have HA := Lib.hid ha
  have HB := Lib.hid hb
  clear ha hb
  go_enter Tryz.func20, Tryz.ntmps20
  go_wp2_with fail
  refine (radd_any a b HA.out HB.out _).mono ?_
  rintro e w2 ⟨rfl, rfl⟩
  obtain ⟨r1, r2, hr⟩ := prod_ex (ovf (a + b))
  rw [hr, pair]
  have HR := Lib.hid hr
  clear hr
  go_wp2_with fail
  go_ret2
  exact ⟨ret_pair rfl HR.out, rfl⟩
set_option maxRecDepth 100000 in
theorem RBinary_minus (a b : Int) (ha : inR a) (hb : inR b) (w : World) : Calls Tryz.prog 20 #[.string ⟨#[45]⟩, .int .i64 a, .int .i64 b] w fun e w' => e = .returned (pair (ovf (a - b))) ∧ w = w' := by
  have HA := Lib.hid ha
  have HB := Lib.hid hb
  clear ha hb
  go_enter Tryz.func20, Tryz.ntmps20
  go_wp2_with fail
  refine (rsub_any a b HA.out HB.out _).mono ?_
  rintro e w2 ⟨rfl, rfl⟩
  obtain ⟨r1, r2, hr⟩ := prod_ex (ovf (a - b))
  rw [hr, pair]
  have HR := Lib.hid hr
  clear hr
  go_wp2_with fail
  go_ret2
  exact ⟨ret_pair rfl HR.out, rfl⟩
set_option maxRecDepth 100000 in
theorem RBinary_times (a b : Int) (ha : inR a) (hb : inR b) (w : World) : Calls Tryz.prog 20 #[.string ⟨#[42]⟩, .int .i64 a, .int .i64 b] w fun e w' => e = .returned (pair (ovf (a * b))) ∧ w = w' := by
  have HA := Lib.hid ha
  have HB := Lib.hid hb
  clear ha hb
  go_enter Tryz.func20, Tryz.ntmps20
  go_wp2_with fail
  refine (rmul_any a b HA.out HB.out _).mono ?_
  rintro e w2 ⟨rfl, rfl⟩
  obtain ⟨r1, r2, hr⟩ := prod_ex (ovf (a * b))
  rw [hr, pair]
  have HR := Lib.hid hr
  clear hr
  go_wp2_with fail
  go_ret2
  exact ⟨ret_pair rfl HR.out, rfl⟩
set_option maxRecDepth 100000 in
theorem RBinary_quot (a b : Int) (ha : inR a) (hb : inR b) (w : World) : Calls Tryz.prog 20 #[.string ⟨#[47, 47]⟩, .int .i64 a, .int .i64 b] w fun e w' => e = .returned (pair (quo a b)) ∧ w = w' := by
  have HA := Lib.hid ha
  have HB := Lib.hid hb
  clear ha hb
  by_cases h0 : b = 0
  · subst h0
    have HE := Lib.hid (show quo a 0 = (0, 11) from if_pos rfl)
    go_enter Tryz.func20, Tryz.ntmps20
    go_wp2_with fail
    go_ret2
    exact ⟨ret_pair rfl HE.out, rfl⟩
  · have b0 : (b == 0) = false := by simpa using h0
    have H0 := Lib.hid h0
    clear h0
    go_enter Tryz.func20, Tryz.ntmps20
    go_wp2_with fail
    refine (rquot_any a b HA.out H0.out _).mono ?_
    rintro e w2 ⟨rfl, rfl⟩
    obtain ⟨r1, r2, hr⟩ := prod_ex (quo a b)
    rw [hr, pair]
    have HR := Lib.hid hr
    clear hr
    go_wp2_with fail
    go_ret2
    exact ⟨ret_pair rfl HR.out, rfl⟩
set_option maxRecDepth 100000 in
theorem RBinary_rem (a b : Int) (ha : inR a) (hb : inR b) (w : World) : Calls Tryz.prog 20 #[.string ⟨#[114, 101, 109]⟩, .int .i64 a, .int .i64 b] w fun e w' => e = .returned (pair (rmd a b)) ∧ w = w' := by
  have HA := Lib.hid ha
  have HB := Lib.hid hb
  clear ha hb
  by_cases h0 : b = 0
  · subst h0
    have HE := Lib.hid (show rmd a 0 = (0, 11) from if_pos rfl)
    go_enter Tryz.func20, Tryz.ntmps20
    go_wp2_with fail
    go_ret2
    exact ⟨ret_pair rfl HE.out, rfl⟩
  · have b0 : (b == 0) = false := by simpa using h0
    have H0 := Lib.hid h0
    clear h0
    have HE := Lib.hid (show rmd a b = (a.tmod b, 0) by unfold rmd; rw [if_neg H0.out])
    go_enter Tryz.func20, Tryz.ntmps20
    go_wp2_with fail
    refine (rrem_any a b HA.out H0.out _).mono ?_
    rintro e w2 ⟨rfl, rfl⟩
    go_wp2_with fail
    go_ret2
    exact ⟨ret_pair rfl HE.out, rfl⟩
set_option maxRecDepth 100000 in
theorem RBinary_div (a b : Int) (ha : inR a) (hb : inR b) (w : World) : Calls Tryz.prog 20 #[.string ⟨#[100, 105, 118]⟩, .int .i64 a, .int .i64 b] w fun e w' => e = .returned (pair (flr a b)) ∧ w = w' := by
  have HA := Lib.hid ha
  have HB := Lib.hid hb
  clear ha hb
  by_cases h0 : b = 0
  · subst h0
    have HE := Lib.hid (show flr a 0 = (0, 11) from if_pos rfl)
    go_enter Tryz.func20, Tryz.ntmps20
    go_wp2_with fail
    go_ret2
    exact ⟨ret_pair rfl HE.out, rfl⟩
  · have b0 : (b == 0) = false := by simpa using h0
    have H0 := Lib.hid h0
    clear h0
    go_enter Tryz.func20, Tryz.ntmps20
    go_wp2_with fail
    refine (rdiv_any a b HA.out H0.out _).mono ?_
    rintro e w2 ⟨rfl, rfl⟩
    obtain ⟨r1, r2, hr⟩ := prod_ex (flr a b)
    rw [hr, pair]
    have HR := Lib.hid hr
    clear hr
    go_wp2_with fail
    go_ret2
    exact ⟨ret_pair rfl HR.out, rfl⟩
set_option maxRecDepth 100000 in
theorem RBinary_mod (a b : Int) (ha : inR a) (hb : inR b) (w : World) : Calls Tryz.prog 20 #[.string ⟨#[109, 111, 100]⟩, .int .i64 a, .int .i64 b] w fun e w' => e = .returned (pair (mdl a b)) ∧ w = w' := by
  have HA := Lib.hid ha
  have HB := Lib.hid hb
  clear ha hb
  by_cases h0 : b = 0
  · subst h0
    have HE := Lib.hid (show mdl a 0 = (0, 11) from if_pos rfl)
    go_enter Tryz.func20, Tryz.ntmps20
    go_wp2_with fail
    go_ret2
    exact ⟨ret_pair rfl HE.out, rfl⟩
  · have b0 : (b == 0) = false := by simpa using h0
    have H0 := Lib.hid h0
    clear h0
    have HE := Lib.hid (show mdl a b = ((mdl a b).1, 0) by unfold mdl; rw [if_neg H0.out])
    go_enter Tryz.func20, Tryz.ntmps20
    go_wp2_with fail
    refine (rmod_any a b HA.out HB.out H0.out _).mono ?_
    rintro e w2 ⟨rfl, rfl⟩
    go_wp2_with fail
    go_ret2
    exact ⟨ret_pair rfl HE.out, rfl⟩
set_option maxRecDepth 100000 in
theorem RBinary_min (a b : Int) (ha : inR a) (hb : inR b) (w : World) : Calls Tryz.prog 20 #[.string ⟨#[109, 105, 110]⟩, .int .i64 a, .int .i64 b] w fun e w' => e = .returned (pair ((min a b, 0))) ∧ w = w' := by
  have HA := Lib.hid ha
  have HB := Lib.hid hb
  clear ha hb
  by_cases h0 : b < a
  · have HE := Lib.hid (show (min a b, (0 : Int)) = (b, 0) by congr 1; omega)
    go_enter Tryz.func20, Tryz.ntmps20
    go_wp2_with fail
    go_ret2
    exact ⟨ret_pair rfl HE.out, rfl⟩
  · have HE := Lib.hid (show (min a b, (0 : Int)) = (a, 0) by congr 1; omega)
    go_enter Tryz.func20, Tryz.ntmps20
    go_wp2_with fail
    go_ret2
    exact ⟨ret_pair rfl HE.out, rfl⟩
set_option maxRecDepth 100000 in
theorem RBinary_max (a b : Int) (ha : inR a) (hb : inR b) (w : World) : Calls Tryz.prog 20 #[.string ⟨#[109, 97, 120]⟩, .int .i64 a, .int .i64 b] w fun e w' => e = .returned (pair ((max a b, 0))) ∧ w = w' := by
  have HA := Lib.hid ha
  have HB := Lib.hid hb
  clear ha hb
  by_cases h0 : a < b
  · have HE := Lib.hid (show (max a b, (0 : Int)) = (b, 0) by congr 1; omega)
    go_enter Tryz.func20, Tryz.ntmps20
    go_wp2_with fail
    go_ret2
    exact ⟨ret_pair rfl HE.out, rfl⟩
  · have HE := Lib.hid (show (max a b, (0 : Int)) = (a, 0) by congr 1; omega)
    go_enter Tryz.func20, Tryz.ntmps20
    go_wp2_with fail
    go_ret2
    exact ⟨ret_pair rfl HE.out, rfl⟩
set_option maxRecDepth 100000 in
theorem RBinary_right (a b : Int) (ha : inR a) (hb : inR b) (w : World) : Calls Tryz.prog 20 #[.string ⟨#[62, 62]⟩, .int .i64 a, .int .i64 b] w fun e w' => e = .returned (pair (shr a b)) ∧ w = w' := by
  have HA := Lib.hid ha
  have HB := Lib.hid hb
  clear ha hb
  go_enter Tryz.func20, Tryz.ntmps20
  go_wp2_with fail
  refine (rright_any a b HA.out _).mono ?_
  rintro e w2 ⟨rfl, rfl⟩
  obtain ⟨r1, r2, hr⟩ := prod_ex (shr a b)
  rw [hr, pair]
  have HR := Lib.hid hr
  clear hr
  go_wp2_with fail
  go_ret2
  exact ⟨ret_pair rfl HR.out, rfl⟩
set_option maxRecDepth 100000 in
theorem RBinary_left (a b : Int) (ha : inR a) (hb : inR b) (w : World) : Calls Tryz.prog 20 #[.string ⟨#[60, 60]⟩, .int .i64 a, .int .i64 b] w fun e w' => e = .returned (pair (shl a b)) ∧ w = w' := by
  have HA := Lib.hid ha
  have HB := Lib.hid hb
  clear ha hb
  go_enter Tryz.func20, Tryz.ntmps20
  go_wp2_with fail
  refine (rleft_any a b HA.out _).mono ?_
  rintro e w2 ⟨rfl, rfl⟩
  obtain ⟨r1, r2, hr⟩ := prod_ex (shl a b)
  rw [hr, pair]
  have HR := Lib.hid hr
  clear hr
  go_wp2_with fail
  go_ret2
  exact ⟨ret_pair rfl HR.out, rfl⟩
set_option maxRecDepth 100000 in
theorem RBinary_and (a b : Int) (ha : inR a) (hb : inR b) (w : World) : Calls Tryz.prog 20 #[.string ⟨#[47, 92]⟩, .int .i64 a, .int .i64 b] w fun e w' => e = .returned (pair ((bits BinOp.and IntKind.i64 a b, 0))) ∧ w = w' := by
  have HA := Lib.hid ha
  have HB := Lib.hid hb
  clear ha hb
  go_enter Tryz.func20, Tryz.ntmps20
  go_wp2_with fail
  go_ret2
  exact ⟨ret_pair rfl rfl, rfl⟩
set_option maxRecDepth 100000 in
theorem RBinary_or (a b : Int) (ha : inR a) (hb : inR b) (w : World) : Calls Tryz.prog 20 #[.string ⟨#[92, 47]⟩, .int .i64 a, .int .i64 b] w fun e w' => e = .returned (pair ((bits BinOp.or IntKind.i64 a b, 0))) ∧ w = w' := by
  have HA := Lib.hid ha
  have HB := Lib.hid hb
  clear ha hb
  go_enter Tryz.func20, Tryz.ntmps20
  go_wp2_with fail
  go_ret2
  exact ⟨ret_pair rfl rfl, rfl⟩
set_option maxRecDepth 100000 in
theorem RBinary_xor (a b : Int) (ha : inR a) (hb : inR b) (w : World) : Calls Tryz.prog 20 #[.string ⟨#[120, 111, 114]⟩, .int .i64 a, .int .i64 b] w fun e w' => e = .returned (pair ((bits BinOp.xor IntKind.i64 a b, 0))) ∧ w = w' := by
  have HA := Lib.hid ha
  have HB := Lib.hid hb
  clear ha hb
  go_enter Tryz.func20, Tryz.ntmps20
  go_wp2_with fail
  go_ret2
  exact ⟨ret_pair rfl rfl, rfl⟩
set_option maxRecDepth 100000 in
theorem RBinary_pow (a b : Int) (ha : inR a) (hb : inR b) (w : World) : Calls Tryz.prog 20 #[.string ⟨#[94]⟩, .int .i64 a, .int .i64 b] w fun e w' => e = .returned (pair (pw a b)) ∧ w = w' := by
  have HA := Lib.hid ha
  have HB := Lib.hid hb
  clear ha hb
  go_enter Tryz.func20, Tryz.ntmps20
  go_wp2_with fail
  refine (rpower_any a b HA.out HB.out _).mono ?_
  rintro e w2 ⟨rfl, rfl⟩
  obtain ⟨r1, r2, hr⟩ := prod_ex (pw a b)
  rw [hr, pair]
  have HR := Lib.hid hr
  clear hr
  go_wp2_with fail
  go_ret2
  exact ⟨ret_pair rfl HR.out, rfl⟩
set_option maxRecDepth 100000 in
theorem RBinary_gcd (a b : Int) (ha : inR a) (hb : inR b) (w : World) : Calls Tryz.prog 20 #[.string ⟨#[103, 99, 100]⟩, .int .i64 a, .int .i64 b] w fun e w' => e = .returned (pair (gcdE a b)) ∧ w = w' := by
  have HA := Lib.hid ha
  have HB := Lib.hid hb
  clear ha hb
  go_enter Tryz.func20, Tryz.ntmps20
  go_wp2_with fail
  refine (rgcd_any a b HA.out HB.out _).mono ?_
  rintro e w2 ⟨rfl, rfl⟩
  obtain ⟨r1, r2, hr⟩ := prod_ex (gcdE a b)
  rw [hr, pair]
  have HR := Lib.hid hr
  clear hr
  go_wp2_with fail
  go_ret2
  exact ⟨ret_pair rfl HR.out, rfl⟩
theorem RUnary_neg (a : Int) (ha : inR a) (w : World) : Calls Tryz.prog 70 #[.string ⟨#[45]⟩, .int .i64 a] w fun e w' => e = .returned (pair (ovf (0 - a))) ∧ w = w' := by
  have HA := Lib.hid ha
  clear ha
  go_enter Tryz.func70, Tryz.ntmps70
  go_wp2_with fail
  refine (rsub_any 0 a (by decide) HA.out _).mono ?_
  rintro e w2 ⟨rfl, rfl⟩
  obtain ⟨r1, r2, hr⟩ := prod_ex (ovf (0 - a))
  rw [hr, pair]
  have HR := Lib.hid hr
  clear hr
  go_wp2_with fail
  go_ret2
  exact ⟨ret_pair rfl HR.out, rfl⟩
theorem RUnary_id (a : Int) (ha : inR a) (w : World) : Calls Tryz.prog 70 #[.string ⟨#[43]⟩, .int .i64 a] w fun e w' => e = .returned (pair ((a, 0))) ∧ w = w' := by
  have HA := Lib.hid ha
  clear ha
  go_enter Tryz.func70, Tryz.ntmps70
  go_wp2_with fail
  go_ret2
  exact ⟨ret_pair rfl rfl, rfl⟩
theorem RUnary_abs (a : Int) (ha : inR a) (w : World) : Calls Tryz.prog 70 #[.string ⟨#[97, 98, 115]⟩, .int .i64 a] w fun e w' => e = .returned (pair (absE a)) ∧ w = w' := by
  have HA := Lib.hid ha
  clear ha
  by_cases h0 : a < 0
  · have HE := Lib.hid (show absE a = ovf (0 - a) from if_pos h0)
    go_enter Tryz.func70, Tryz.ntmps70
    go_wp2_with fail
    refine (rsub_any 0 a (by decide) HA.out _).mono ?_
    rintro e w2 ⟨rfl, rfl⟩
    obtain ⟨r1, r2, hr⟩ := prod_ex (ovf (0 - a))
    rw [hr, pair]
    have HR := Lib.hid hr
    clear hr
    go_wp2_with fail
    go_ret2
    exact ⟨ret_pair rfl (HE.out.trans HR.out), rfl⟩
  · have HE := Lib.hid (show absE a = (a, 0) from if_neg h0)
    go_enter Tryz.func70, Tryz.ntmps70
    go_wp2_with fail
    go_ret2
    exact ⟨ret_pair rfl HE.out, rfl⟩
theorem RUnary_sgn (a : Int) (ha : inR a) (w : World) : Calls Tryz.prog 70 #[.string ⟨#[115, 105, 103, 110]⟩, .int .i64 a] w fun e w' => e = .returned (pair ((sgn a, 0))) ∧ w = w' := by
  have HA := Lib.hid ha
  clear ha
  go_enter Tryz.func70, Tryz.ntmps70
  go_wp2_with fail
  all_goals go_ret2
  all_goals exact ⟨ret_pair (by unfold sgn; split <;> (try split) <;> omega) rfl, rfl⟩
theorem RUnary_not (a : Int) (ha : inR a) (w : World) : Calls Tryz.prog 70 #[.string ⟨#[92]⟩, .int .i64 a] w fun e w' => e = .returned (pair ((bits BinOp.xor IntKind.i64 (-1) a, 0))) ∧ w = w' := by
  have HA := Lib.hid ha
  have HE := Lib.hid (not_eq ha)
  unfold inR at ha
  go_enter Tryz.func70, Tryz.ntmps70
  go_wp2_with fail
  go_ret2
  exact ⟨ret_pair HE.out.symm rfl, rfl⟩
theorem ne_list {x : ByteArray} {l : List UInt8} (h : x ≠ ⟨l.toArray⟩) : (x.toList == l) = false := by
  rw [beq_eq_false_iff_ne, ByteArray.toList_eq]
  rintro rfl
  exact h (by cases x; simp)
set_option maxRecDepth 100000 in
theorem RUnary_any (x : ByteArray) (a : Int) (ha : inR a) (w : World) : Calls Tryz.prog 70 #[.string x, .int .i64 a] w fun e w' => e = .returned (pair (unS x a)) ∧ w = w' := by
  by_cases h0 : x = ⟨#[45]⟩
  · subst h0
    rw [show unS ⟨#[45]⟩ a = ovf (0 - a) by simp [unS, eqS_data]]
    exact RUnary_neg a ha w
  by_cases h1 : x = ⟨#[43]⟩
  · subst h1
    rw [show unS ⟨#[43]⟩ a = (a, 0) by simp [unS, eqS_data]]
    exact RUnary_id a ha w
  by_cases h2 : x = ⟨#[97, 98, 115]⟩
  · subst h2
    rw [show unS ⟨#[97, 98, 115]⟩ a = absE a by simp [unS, eqS_data]]
    exact RUnary_abs a ha w
  by_cases h3 : x = ⟨#[115, 105, 103, 110]⟩
  · subst h3
    rw [show unS ⟨#[115, 105, 103, 110]⟩ a = (sgn a, 0) by simp [unS, eqS_data]]
    exact RUnary_sgn a ha w
  by_cases h4 : x = ⟨#[92]⟩
  · subst h4
    rw [show unS ⟨#[92]⟩ a = (bits BinOp.xor IntKind.i64 (-1) a, 0) by simp [unS, eqS_data]]
    exact RUnary_not a ha w
  have HE := Lib.hid (show unS x a = (0, 4) by simp [unS, eqS_ne h0, eqS_ne h1, eqS_ne h2, eqS_ne h3, eqS_ne h4])
  have g0 := ne_list h0
  have g1 := ne_list h1
  have g2 := ne_list h2
  have g3 := ne_list h3
  have g4 := ne_list h4
  clear ha h0 h1 h2 h3 h4
  go_enter Tryz.func70, Tryz.ntmps70
  go_wp2_with fail
  go_ret2
  exact ⟨ret_pair rfl HE.out, rfl⟩
set_option maxRecDepth 100000 in
theorem RBinary_any (x : ByteArray) (a b : Int) (ha : inR a) (hb : inR b) (w : World) : Calls Tryz.prog 20 #[.string x, .int .i64 a, .int .i64 b] w fun e w' => e = .returned (pair (binS x a b)) ∧ w = w' := by
  by_cases h0 : x = ⟨#[43]⟩
  · subst h0
    rw [show binS ⟨#[43]⟩ a b = ovf (a + b) by simp [binS, eqS_data]]
    exact RBinary_plus a b ha hb w
  by_cases h1 : x = ⟨#[45]⟩
  · subst h1
    rw [show binS ⟨#[45]⟩ a b = ovf (a - b) by simp [binS, eqS_data]]
    exact RBinary_minus a b ha hb w
  by_cases h2 : x = ⟨#[42]⟩
  · subst h2
    rw [show binS ⟨#[42]⟩ a b = ovf (a * b) by simp [binS, eqS_data]]
    exact RBinary_times a b ha hb w
  by_cases h3 : x = ⟨#[47, 47]⟩
  · subst h3
    rw [show binS ⟨#[47, 47]⟩ a b = quo a b by simp [binS, eqS_data]]
    exact RBinary_quot a b ha hb w
  by_cases h4 : x = ⟨#[114, 101, 109]⟩
  · subst h4
    rw [show binS ⟨#[114, 101, 109]⟩ a b = rmd a b by simp [binS, eqS_data]]
    exact RBinary_rem a b ha hb w
  by_cases h5 : x = ⟨#[100, 105, 118]⟩
  · subst h5
    rw [show binS ⟨#[100, 105, 118]⟩ a b = flr a b by simp [binS, eqS_data]]
    exact RBinary_div a b ha hb w
  by_cases h6 : x = ⟨#[109, 111, 100]⟩
  · subst h6
    rw [show binS ⟨#[109, 111, 100]⟩ a b = mdl a b by simp [binS, eqS_data]]
    exact RBinary_mod a b ha hb w
  by_cases h7 : x = ⟨#[109, 105, 110]⟩
  · subst h7
    rw [show binS ⟨#[109, 105, 110]⟩ a b = (min a b, 0) by simp [binS, eqS_data]]
    exact RBinary_min a b ha hb w
  by_cases h8 : x = ⟨#[109, 97, 120]⟩
  · subst h8
    rw [show binS ⟨#[109, 97, 120]⟩ a b = (max a b, 0) by simp [binS, eqS_data]]
    exact RBinary_max a b ha hb w
  by_cases h9 : x = ⟨#[62, 62]⟩
  · subst h9
    rw [show binS ⟨#[62, 62]⟩ a b = shr a b by simp [binS, eqS_data]]
    exact RBinary_right a b ha hb w
  by_cases h10 : x = ⟨#[60, 60]⟩
  · subst h10
    rw [show binS ⟨#[60, 60]⟩ a b = shl a b by simp [binS, eqS_data]]
    exact RBinary_left a b ha hb w
  by_cases h11 : x = ⟨#[47, 92]⟩
  · subst h11
    rw [show binS ⟨#[47, 92]⟩ a b = (bits BinOp.and IntKind.i64 a b, 0) by simp [binS, eqS_data]]
    exact RBinary_and a b ha hb w
  by_cases h12 : x = ⟨#[92, 47]⟩
  · subst h12
    rw [show binS ⟨#[92, 47]⟩ a b = (bits BinOp.or IntKind.i64 a b, 0) by simp [binS, eqS_data]]
    exact RBinary_or a b ha hb w
  by_cases h13 : x = ⟨#[120, 111, 114]⟩
  · subst h13
    rw [show binS ⟨#[120, 111, 114]⟩ a b = (bits BinOp.xor IntKind.i64 a b, 0) by simp [binS, eqS_data]]
    exact RBinary_xor a b ha hb w
  by_cases h14 : x = ⟨#[94]⟩
  · subst h14
    rw [show binS ⟨#[94]⟩ a b = pw a b by simp [binS, eqS_data]]
    exact RBinary_pow a b ha hb w
  by_cases h15 : x = ⟨#[103, 99, 100]⟩
  · subst h15
    rw [show binS ⟨#[103, 99, 100]⟩ a b = gcdE a b by simp [binS, eqS_data]]
    exact RBinary_gcd a b ha hb w
  have HE := Lib.hid (show binS x a b = (0, 4) by simp [binS, eqS_ne h0, eqS_ne h1, eqS_ne h2, eqS_ne h3, eqS_ne h4, eqS_ne h5, eqS_ne h6, eqS_ne h7, eqS_ne h8, eqS_ne h9, eqS_ne h10, eqS_ne h11, eqS_ne h12, eqS_ne h13, eqS_ne h14, eqS_ne h15])
  have g0 := ne_list h0
  have g1 := ne_list h1
  have g2 := ne_list h2
  have g3 := ne_list h3
  have g4 := ne_list h4
  have g5 := ne_list h5
  have g6 := ne_list h6
  have g7 := ne_list h7
  have g8 := ne_list h8
  have g9 := ne_list h9
  have g10 := ne_list h10
  have g11 := ne_list h11
  have g12 := ne_list h12
  have g13 := ne_list h13
  have g14 := ne_list h14
  have g15 := ne_list h15
  clear ha hb h0 h1 h2 h3 h4 h5 h6 h7 h8 h9 h10 h11 h12 h13 h14 h15
  go_enter Tryz.func20, Tryz.ntmps20
  go_wp2_with fail
  go_ret2
  exact ⟨ret_pair rfl HE.out, rfl⟩

theorem Names_any (ar : Int) (w : World) : Calls Tryz.prog 44 #[.int .i64 ar] w fun e w' => (∃ v, e = .returned v ∧ StrsAt w' v (namesS ar)) ∧ Below w.heap.size w w' := by
  by_cases h1 : ar = 1
  · subst h1
    go_enter Tryz.func44, Tryz.ntmps44
    go_wp2_with fail
    go_ret
    exact ⟨⟨_, rfl, StrsAt.new w unN 9⟩, (Below.refl _ _).alloc (Nat.le_refl _) _⟩
  have e1 : (ar == 1) = false := by simpa using h1
  by_cases h2 : ar = 2
  · subst h2
    clear h1
    go_enter Tryz.func44, Tryz.ntmps44
    go_wp2_with fail
    go_ret
    exact ⟨⟨_, rfl, StrsAt.new w biN 9⟩, (Below.refl _ _).alloc (Nat.le_refl _) _⟩
  have e2 : (ar == 2) = false := by simpa using h2
  have HE := Lib.hid (show namesS ar = [] by unfold namesS; rw [if_neg h1, if_neg h2])
  clear h1 h2
  go_enter Tryz.func44, Tryz.ntmps44
  go_wp2_with fail
  go_ret
  exact ⟨⟨_, rfl, by rw [HE.out]; exact ⟨none, rfl, fun h => absurd h (by decide)⟩⟩, Below.refl _ _⟩
theorem RKnown_any (x : ByteArray) (ar : Int) (w : World) : Calls Tryz.prog 17 #[.string x, .int .i64 ar] w fun e w' => e = .returned (.bool (knS x ar)) ∧ Below w.heap.size w w' := by
  have hlen := namesS_len ar
  go_enter Tryz.func17, Tryz.ntmps17
  go_wp2_with fail
  refine (Names_any ar _).mono ?_
  rintro e w1 ⟨⟨v, rfl, A, rfl, hA⟩, hl⟩
  have HK := Lib.hid (show knS x ar = (namesS ar).any (eqS x) from rfl)
  generalize hn : namesS ar = N at *
  have HL := Lib.hid hl
  have HA := Lib.hid hA
  clear hn hl hA
  go_wp2_with fail
  go_loop [6] (fun i => ∃ k : Nat, k ≤ N.length ∧ i = .int .i64 (k : Int) ∧ Hid (∀ j, j < k → eqS x (N.getD j .empty) = false)) (fun i => N.length - (intOf i).toNat)
  case atStart => exact ⟨0, by omega, rfl, Lib.hid fun _ h => absurd h (by omega)⟩
  case round =>
    obtain ⟨k, hk, rfl, HP⟩ := hrel
    by_cases hlt : k < N.length
    · obtain ⟨b, rfl, hb, hc⟩ := HA.out (by omega)
      have hck := hc k hlt
      have HE := Lib.hid (eqS_comm x (N.getD k .empty))
      generalize hy : N.getD k .empty = y at hck HE
      have HY := Lib.hid hy
      clear hc hy
      cases ht : (y.toList == x.toList)
      · have HT := Lib.hid (HE.out.trans ht)
        go_wp2_with fail
        exact ⟨⟨k + 1, by omega, by go_num, Lib.hid fun j hj => by
          rcases Nat.lt_or_ge j k with h | h
          · exact HP.out j h
          · obtain rfl : j = k := by omega
            rw [HY.out]; exact HT.out⟩, by simp [intOf]; omega⟩
      · have HT := Lib.hid (HE.out.trans ht)
        go_wp2_with fail
        go_ret
        exact ⟨iret_bool (by rw [HK.out, any_at hlt (by rw [HY.out]; exact HT.out)]), HL.out⟩
    · go_wp2_with fail
      go_ret
      exact ⟨iret_bool (by rw [HK.out, any_upto (fun j hj => HP.out j (by omega))]), HL.out⟩
end Go.Proofs.YtcagaaacfcpoeaaGreat
