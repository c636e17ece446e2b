/-
  The walks of floor and modulo.
-/
import Derived.Test.YtcnbaioecoaopaaDoorAc
namespace Go.Proofs.YtcnbaioecoaopaaDoor
open Go.RowKit
/-- the rest of the division and the divisor have other signs -/
def off (a b : Int) : Prop := (Int.tmod a b < 0 ∧ 0 < b) ∨ (0 < Int.tmod a b ∧ b < 0)
instance (a b : Int) : Decidable (off a b) := inferInstanceAs (Decidable (_ ∨ _))
def flr (a b : Int) : Int × Int := if b = 0 then (0, 11) else if a = -9223372036854775808 ∧ b = -1 then (0, 10) else (Int.tdiv a b - (if off a b then 1 else 0), 0)
def mdl (a b : Int) : Int × Int := if b = 0 then (0, 11) else (Int.tmod a b + (if off a b then b else 0), 0)
theorem tmod_in {a b : Int} (hb : inR b) (h0 : b ≠ 0) : inR (a.tmod b) ∧ inR (a.tmod b + (if off a b then b else 0)) := by
  have h3 : (a.tmod b).natAbs < b.natAbs := by rw [Int.natAbs_tmod]; exact Nat.mod_lt _ (by omega)
  unfold inR at *
  by_cases h : off a b
  · rw [if_pos h]
    unfold off at h
    omega
  · rw [if_neg h]
    omega
theorem mod_any (a b : Int) (hb : inR b) (w : World) :
    Calls Tryd.prog 54 #[.int .i64 a, .int .i64 b] w fun e w' => e = .returned (pair (mdl a b)) ∧ w = w' := by
  go_enter Tryd.func54, Tryd.ntmps54
  go_wp2_with fail
  refine (rem_any a b _).mono ?_
  rintro e w1 ⟨rfl, rfl⟩
  by_cases h0 : b = 0
  · subst h0
    rw [show rmd a 0 = (0, 11) from if_pos rfl, pair]
    go_wp2_with fail
    go_ret2
    exact ⟨rfl, rfl⟩
  · rw [show rmd a b = (a.tmod b, 0) from if_neg h0, pair]
    have hm := tmod_in (a := a) hb h0
    have he : mdl a b = (a.tmod b + (if off a b then b else 0), 0) := if_neg h0
    have HE := Lib.hid he
    have HM := Lib.hid hm
    have hO : off a b ↔ (Int.tmod a b < 0 ∧ 0 < b) ∨ (0 < Int.tmod a b ∧ b < 0) := Iff.rfl
    have HO := Lib.hid hO
    clear hm he hb hO
    go_wp2_with fail
    all_goals go_ret2
    all_goals refine ⟨ret_pair ?_ HE.out, rfl⟩
    all_goals have hO := HO.out
    all_goals have hm := HM.out
    all_goals clear HE HO HM
    all_goals generalize Int.tmod a b = r at *
    all_goals by_cases hoff : off a b
    all_goals simp only [hoff, if_true, if_false, true_iff, false_iff] at hO hm ⊢
    all_goals first
      | omega
      | (rw [wrap_in hm.2])
      | (simp_all; omega)
theorem floor_any (a b : Int) (ha : inR a) (hb : inR b) (w : World) :
    Calls Tryd.prog 53 #[.int .i64 a, .int .i64 b] w fun e w' => e = .returned (pair (flr a b)) ∧ w = w' := by
  go_enter Tryd.func53, Tryd.ntmps53
  go_wp2_with fail
  refine (quot_any a b ha hb _).mono ?_
  rintro e w1 ⟨rfl, rfl⟩
  by_cases h0 : b = 0
  · subst h0
    rw [show quo a 0 = (0, 11) from if_pos rfl, pair]
    go_wp2_with fail
    go_ret2
    exact ⟨rfl, rfl⟩
  · by_cases h1 : a = -9223372036854775808 ∧ b = -1
    · obtain ⟨rfl, rfl⟩ := h1
      rw [show quo (-9223372036854775808) (-1) = (0, 10) from by decide, pair]
      go_wp2_with fail
      go_ret2
      exact ⟨rfl, rfl⟩
    · have hq := tdiv_in ha h0 h1
      have e : quo a b = (a.tdiv b, 0) := by unfold quo; rw [if_neg h0, ovf_in hq]
      have hf : flr a b = (Int.tdiv a b - (if off a b then 1 else 0), 0) := by unfold flr; rw [if_neg h0, if_neg h1]
      have hqo : off a b → inR (a.tdiv b - 1) := fun h => by
        have h2 := Int.mul_tdiv_add_tmod a b
        unfold inR at *
        by_cases hz : a.tdiv b = -9223372036854775808
        · exfalso
          rw [hz] at h2
          unfold off at h
          have h3 : (a.tmod b).natAbs < b.natAbs := by rw [Int.natAbs_tmod]; exact Nat.mod_lt _ (by omega)
          have h4 : (a.tmod b).natAbs ≤ a.natAbs := by rw [Int.natAbs_tmod]; exact Nat.mod_le _ _
          omega
        · omega
      rw [e, pair]
      have HE := Lib.hid hf
      have HQ := Lib.hid hqo
      have hO : off a b ↔ (Int.tmod a b < 0 ∧ 0 < b) ∨ (0 < Int.tmod a b ∧ b < 0) := Iff.rfl
      have HO := Lib.hid hO
      clear e hf hq hqo hO ha hb h1
      go_wp2_with fail
      refine (rem_any a b _).mono ?_
      rintro e w1 ⟨rfl, rfl⟩
      rw [show rmd a b = (a.tmod b, 0) from if_neg h0, pair]
      go_wp2_with fail
      all_goals go_ret2
      all_goals refine ⟨ret_pair ?_ HE.out, rfl⟩
      all_goals have hO := HO.out
      all_goals have hm := HQ.out
      all_goals clear HE HO HQ
      all_goals generalize Int.tmod a b = r at *
      all_goals by_cases hoff : off a b
      all_goals simp only [hoff, if_true, if_false, true_iff, false_iff, forall_const] at hO hm ⊢
      all_goals first
        | omega
        | (rw [wrap_in hm])
        | (simp_all; omega)
end Go.Proofs.YtcnbaioecoaopaaDoor
