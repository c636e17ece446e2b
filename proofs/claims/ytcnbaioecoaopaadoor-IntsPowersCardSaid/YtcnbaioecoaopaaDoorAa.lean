import Derived.Test.YtcnbaioecoaopaaDoorRows
import Derived.WalkKit
import Derived.WalkSpells
namespace Go.Proofs.YtcnbaioecoaopaaDoor
open Go.RowKit
def inR (n : Int) : Prop := -9223372036854775808 ≤ n ∧ n ≤ 9223372036854775807
instance (n : Int) : Decidable (inR n) := inferInstanceAs (Decidable (_ ∧ _))
def pair (x : Int × Int) : Value := .tuple #[.int .i64 x.1, .int .i64 x.2]
def ovf (n : Int) : Int × Int := if inR n then (n, 0) else (0, 10)
theorem ovf_in {n : Int} (h : inR n) : ovf n = (n, 0) := if_pos h
theorem ovf_out {n : Int} (h : ¬ inR n) : ovf n = (0, 10) := if_neg h
theorem wrap_cases {n : Int} (h : -18446744073709551616 ≤ n ∧ n ≤ 18446744073709551615) : (inR n ∧ wrap64 n = n) ∨ (n < -9223372036854775808 ∧ wrap64 n = n + 18446744073709551616) ∨ (9223372036854775807 < n ∧ wrap64 n = n - 18446744073709551616) := by
  unfold inR wrap64; omega

theorem pair_ok {n m : Int} (h : inR n ∧ m = n) : Ending.returned (.tuple #[.int .i64 m, .int .i64 0]) = .returned (pair (ovf n)) := by
  rw [ovf_in h.1, h.2]; rfl
theorem pair_no {n : Int} (h : ¬ inR n) : Ending.returned (.tuple #[.int .i64 0, .int .i64 10]) = .returned (pair (ovf n)) := by
  rw [ovf_out h]; rfl

theorem plus_any (a b : Int) (ha : inR a) (hb : inR b) (w : World) :
    Calls Tryd.prog 49 #[.int .i64 a, .int .i64 b] w fun e w' => e = .returned (pair (ovf (a + b))) ∧ w = w' := by
  unfold inR at ha hb
  go_enter Tryd.func49, Tryd.ntmps49
  go_wp2
  all_goals go_ret2
  all_goals have hc := wrap_cases (n := a + b) (by omega)
  all_goals unfold inR at hc
  all_goals first
    | exact ⟨pair_ok (by unfold inR; first | omega | (simp_all; omega)), rfl⟩
    | exact ⟨pair_no (by unfold inR; first | omega | (simp_all; omega)), rfl⟩

theorem minus_any (a b : Int) (ha : inR a) (hb : inR b) (w : World) :
    Calls Tryd.prog 43 #[.int .i64 a, .int .i64 b] w fun e w' => e = .returned (pair (ovf (a - b))) ∧ w = w' := by
  unfold inR at ha hb
  go_enter Tryd.func43, Tryd.ntmps43
  go_wp2
  all_goals go_ret2
  all_goals have hc := wrap_cases (n := a - b) (by omega)
  all_goals unfold inR at hc
  all_goals first
    | exact ⟨pair_ok (by unfold inR; first | omega | (simp_all; omega)), rfl⟩
    | exact ⟨pair_no (by unfold inR; first | omega | (simp_all; omega)), rfl⟩
end Go.Proofs.YtcnbaioecoaopaaDoor
