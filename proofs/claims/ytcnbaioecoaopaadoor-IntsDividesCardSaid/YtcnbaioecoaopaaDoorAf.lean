/-
  The walk of divisor.
-/
import Derived.Test.YtcnbaioecoaopaaDoorAe
import Derived.Deep.QuietTactic
namespace Go.Proofs.YtcnbaioecoaopaaDoor
open Go.RowKit
theorem ret_u64 {a b : Int} (h : a = b) : Ending.returned (.int .u64 a) = .returned (.int .u64 b) := by rw [h]
theorem size_any (a : Int) (ha : inR a) (w : World) : Calls Tryd.prog 66 #[.int .i64 a] w fun e w' => e = .returned (.int .u64 (a.natAbs : Int)) ∧ w = w' := by
  unfold inR at ha
  go_enter Tryd.func66, Tryd.ntmps66
  go_wp2
  all_goals go_ret
  all_goals refine ⟨?_, rfl⟩
  · refine ret_u64 ?_
    simp [IntKind.wrap, IntKind.signed, IntKind.bits]
    omega
  · refine ret_u64 ?_
    omega
def gcdE (a b : Int) : Int × Int := ovf (Int.gcd a b : Int)
theorem divisor_any (a b : Int) (ha : inR a) (hb : inR b) (w : World) : Calls Tryd.prog 63 #[.int .i64 a, .int .i64 b] w fun e w' => e = .returned (pair (gcdE a b)) ∧ ∃ q, w' = w.drewN q := by
  have HA := Lib.hid ha
  have HB := Lib.hid hb
  clear ha hb
  go_enter Tryd.func63, Tryd.ntmps63
  go_wp2_with fail
  refine (size_any a HA.out _).mono ?_
  rintro e w1 ⟨rfl, rfl⟩
  go_wp2_with fail
  refine (size_any b HB.out _).mono ?_
  rintro e w1 ⟨rfl, rfl⟩
  go_wp2_with fail
  go_loopw [6, 7] (fun x y wr => ∃ m n q : Nat, x = .int .u64 (m : Int) ∧ y = .int .u64 (n : Int) ∧ m ≤ 9223372036854775808 ∧ n ≤ 9223372036854775808 ∧ Hid (Nat.gcd m n = Int.gcd a b) ∧ Hid (wr = w.drewN q)) (fun _ y _ => (intOf y).toNat)
  case atStart => exact ⟨a.natAbs, b.natAbs, 0, rfl, rfl, by have := HA.out; unfold inR at this; omega, by have := HB.out; unfold inR at this; omega, rfl, rfl⟩
  case round =>
    obtain ⟨m, n, q, rfl, rfl, hm, hn, HG, HW⟩ := hrel
    by_cases h0 : n = 0
    · subst h0
      have hg : (Int.gcd a b : Int) = (m : Int) := by have := HG.out; rw [Nat.gcd_zero_right] at this; rw [this]
      have HGE := Lib.hid (show gcdE a b = ovf (m : Int) by unfold gcdE; rw [hg])
      clear hg
      by_cases hm2 : m ≤ 9223372036854775807
      · have HI := Lib.hid (show ovf (m : Int) = ((m : Int), 0) from ovf_in (by unfold inR; omega))
        go_wp2_with fail
        go_ret2
        exact ⟨ret_pair rfl (HGE.out.trans HI.out), q, HW.out⟩
      · have HI := Lib.hid (show ovf (m : Int) = (0, 10) from ovf_out (by unfold inR; omega))
        go_wp2_with fail
        go_ret2
        exact ⟨ret_pair rfl (HGE.out.trans HI.out), q, HW.out⟩
    · have hn0 : (n : Int) ≠ 0 := by omega
      have hnp : 0 < (n : Int) := by omega
      go_wp2_with fail
      go_quiet (fail)
      go_wp2_with fail
      have e : ((m : Int).tmod (n : Int)) = ((m % n : Nat) : Int) := rfl
      have hlt : m % n < n := Nat.mod_lt m (by omega)
      refine ⟨⟨n, m % n, q + nq, rfl, by rw [e], hn, by omega, ?_, ?_⟩, ?_⟩
      · exact Lib.hid (by rw [← HG.out, Nat.gcd_comm m n, Nat.gcd_rec n m, Nat.gcd_comm])
      · exact Lib.hid (by rw [HW.out, World.drewN_drewN])
      · rw [e]; simp only [intOf]; omega
end Go.Proofs.YtcnbaioecoaopaaDoor
