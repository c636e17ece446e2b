/-
  The walks of quotient, remainder and times.
-/
import Derived.Test.YtcnbaioecoaopaaDoorAa
import Derived.Lib.Hide
namespace Go.Proofs.YtcnbaioecoaopaaDoor
open Go.RowKit
theorem wrap_in {n : Int} (h : inR n) : wrap64 n = n := by unfold inR at h; unfold wrap64; omega
theorem tdiv_in {a b : Int} (ha : inR a) (hb : b ≠ 0) (h : ¬ (a = -9223372036854775808 ∧ b = -1)) : inR (a.tdiv b) := by
  have h1 : (a.tdiv b).natAbs = a.natAbs / b.natAbs := Int.natAbs_tdiv a b
  unfold inR at *
  by_cases hb1 : b = -1
  · subst hb1
    rw [Int.tdiv_neg, Int.tdiv_one]; omega
  · by_cases hb2 : b = 1
    · subst hb2; rw [Int.tdiv_one]; exact ha
    · have h2 : 2 ≤ b.natAbs := by omega
      have h3 : a.natAbs / b.natAbs ≤ a.natAbs / 2 := Nat.div_le_div_left h2 (by omega)
      omega
theorem ret_pair {m n e : Int} {x : Int × Int} (h1 : m = n) (h : x = (n, e)) : Ending.returned (.tuple #[.int .i64 m, .int .i64 e]) = .returned (pair x) := by subst h1 h; rfl
def quo (a b : Int) : Int × Int := if b = 0 then (0, 11) else ovf (Int.tdiv a b)
def rmd (a b : Int) : Int × Int := if b = 0 then (0, 11) else (Int.tmod a b, 0)
theorem quot_any (a b : Int) (ha : inR a) (hb : inR b) (w : World) :
    Calls Tryd.prog 51 #[.int .i64 a, .int .i64 b] w fun e w' => e = .returned (pair (quo a b)) ∧ w = w' := by
  by_cases h0 : b = 0
  · subst h0
    go_enter Tryd.func51, Tryd.ntmps51
    go_wp2
    go_ret2
    exact ⟨rfl, rfl⟩
  · have hb0 : (b == 0) = false := by simpa using h0
    by_cases h1 : a = -9223372036854775808 ∧ b = -1
    · obtain ⟨rfl, rfl⟩ := h1
      go_enter Tryd.func51, Tryd.ntmps51
      go_wp2
      go_ret2
      exact ⟨rfl, rfl⟩
    · have hq := tdiv_in ha h0 h1
      have hw : wrap64 (a.tdiv b) = a.tdiv b := wrap_in hq
      have e : quo a b = (a.tdiv b, 0) := by unfold quo; rw [if_neg h0, ovf_in hq]
      by_cases h2 : a = -9223372036854775808
      · have hb1 : (b == -1) = false := by simp; omega
        have ha2 : (a == -9223372036854775808) = true := by simpa using h2
        have HE := Lib.hid e
        have H2 := Lib.hid h2
        clear e h1 hq h2 ha hb
        go_enter Tryd.func51, Tryd.ntmps51
        go_wp2
        go_ret2
        exact ⟨ret_pair hw HE.out, rfl⟩
      · have ha2 : (a == -9223372036854775808) = false := by simpa using h2
        have HE := Lib.hid e
        clear e h1 hq ha hb
        go_enter Tryd.func51, Tryd.ntmps51
        go_wp2
        go_ret2
        exact ⟨ret_pair hw HE.out, rfl⟩
theorem rem_any (a b : Int) (w : World) :
    Calls Tryd.prog 52 #[.int .i64 a, .int .i64 b] w fun e w' => e = .returned (pair (rmd a b)) ∧ w = w' := by
  by_cases h0 : b = 0
  · subst h0
    go_enter Tryd.func52, Tryd.ntmps52
    go_wp2
    go_ret2
    exact ⟨rfl, rfl⟩
  · have hb0 : (b == 0) = false := by simpa using h0
    by_cases h1 : b = -1
    · subst h1
      have e : rmd a (-1) = (0, 0) := by unfold rmd; rw [if_neg (by decide), Int.tmod_neg, Int.tmod_one]
      have HE := Lib.hid e
      clear e
      go_enter Tryd.func52, Tryd.ntmps52
      go_wp2
      go_ret2
      exact ⟨ret_pair rfl HE.out, rfl⟩
    · have hb1 : (b == -1) = false := by simpa using h1
      have e : rmd a b = (a.tmod b, 0) := by unfold rmd; rw [if_neg h0]
      have HE := Lib.hid e
      clear e
      go_enter Tryd.func52, Tryd.ntmps52
      go_wp2
      go_ret2
      exact ⟨ret_pair rfl HE.out, rfl⟩
end Go.Proofs.YtcnbaioecoaopaaDoor
