/-
  The walks of the shifts.
-/
import Derived.Test.YtcnbaioecoaopaaDoorAd
namespace Go.Proofs.YtcnbaioecoaopaaDoor
open Go.RowKit
def shr (a b : Int) : Int × Int := if b < 0 ∨ 63 < b then (0, 12) else (a / 2 ^ b.toNat, 0)
def shl (a b : Int) : Int × Int := if b < 0 ∨ 63 < b then (0, 12) else ovf (a * 2 ^ b.toNat)
theorem pow_bound {k : Nat} (h : k ≤ 63) : (1 : Int) ≤ 2 ^ k ∧ (2 : Int) ^ k ≤ 9223372036854775808 := by
  have h1 : (2 : Nat) ^ k ≤ 2 ^ 63 := Nat.pow_le_pow_right (by decide) h
  have h2 : 1 ≤ (2 : Nat) ^ k := Nat.one_le_two_pow
  have e : ((2 : Int) ^ k) = (((2 : Nat) ^ k : Nat) : Int) := by simp
  rw [e]
  omega
theorem shl_key {a t : Int} (ht : 1 ≤ t ∧ t ≤ 9223372036854775808) (h : wrap64 (a * t) / t = a) : inR (a * t) := by
  have hn := wrap_wf (a * t)
  have h2 := Int.mul_ediv_add_emod (wrap64 (a * t)) t
  have h3 := Int.emod_nonneg (wrap64 (a * t)) (show t ≠ 0 by omega)
  have h4 := Int.emod_lt_of_pos (wrap64 (a * t)) (show 0 < t by omega)
  rw [h, Int.mul_comm t a] at h2
  have hd : wrap64 (a * t) = (a * t + 9223372036854775808) % 18446744073709551616 - 9223372036854775808 := by unfold wrap64; rfl
  generalize wrap64 (a * t) % t = r at h2 h3 h4
  generalize wrap64 (a * t) = n at h2 hd hn
  generalize a * t = p at h2 hd ⊢
  unfold inR at *
  omega
theorem right_any (a b : Int) (w : World) :
    Calls Tryd.prog 57 #[.int .i64 a, .int .i64 b] w fun e w' => e = .returned (pair (shr a b)) ∧ w = w' := by
  by_cases h : b < 0 ∨ 63 < b
  · have HE := Lib.hid (show shr a b = (0, 12) from if_pos h)
    rcases h with h | h
    · go_enter Tryd.func57, Tryd.ntmps57
      go_wp2
      go_ret2
      exact ⟨ret_pair rfl HE.out, rfl⟩
    · go_enter Tryd.func57, Tryd.ntmps57
      go_wp2
      go_ret2
      exact ⟨ret_pair rfl HE.out, rfl⟩
  · have HE := Lib.hid (show shr a b = (a / 2 ^ b.toNat, 0) from if_neg h)
    have h0 : 0 ≤ b := by omega
    have h1 : b ≤ 63 := by omega
    clear h
    go_enter Tryd.func57, Tryd.ntmps57
    go_wp2
    go_ret2
    exact ⟨ret_pair rfl HE.out, rfl⟩
theorem left_any (a b : Int) (w : World) :
    Calls Tryd.prog 58 #[.int .i64 a, .int .i64 b] w fun e w' => e = .returned (pair (shl a b)) ∧ w = w' := by
  by_cases h : b < 0 ∨ 63 < b
  · have HE := Lib.hid (show shl a b = (0, 12) from if_pos h)
    rcases h with h | h
    · go_enter Tryd.func58, Tryd.ntmps58
      go_wp2
      go_ret2
      exact ⟨ret_pair rfl HE.out, rfl⟩
    · go_enter Tryd.func58, Tryd.ntmps58
      go_wp2
      go_ret2
      exact ⟨ret_pair rfl HE.out, rfl⟩
  · have he := show shl a b = ovf (a * 2 ^ b.toNat) from if_neg h
    have h0 : 0 ≤ b := by omega
    have h1 : b ≤ 63 := by omega
    have ht := pow_bound (k := b.toNat) (by omega)
    clear h
    by_cases hk : wrap64 (a * 2 ^ b.toNat) / 2 ^ b.toNat = a
    · have hin := shl_key ht hk
      rw [ovf_in hin] at he
      have HE := Lib.hid he
      have HW := Lib.hid (wrap_in hin)
      have bk : (wrap64 (a * 2 ^ b.toNat) / 2 ^ b.toNat != a) = false := by simpa using hk
      clear he hin ht hk
      go_enter Tryd.func58, Tryd.ntmps58
      go_wp2
      go_ret2
      exact ⟨ret_pair HW.out HE.out, rfl⟩
    · have hin : ¬ inR (a * 2 ^ b.toNat) := fun hi => hk (by rw [wrap_in hi, Int.mul_ediv_cancel _ (by omega)])
      rw [ovf_out hin] at he
      have HE := Lib.hid he
      have bk : (wrap64 (a * 2 ^ b.toNat) / 2 ^ b.toNat != a) = true := by simpa using hk
      clear he hin ht hk
      go_enter Tryd.func58, Tryd.ntmps58
      go_wp2
      go_ret2
      exact ⟨ret_pair rfl HE.out, rfl⟩
end Go.Proofs.YtcnbaioecoaopaaDoor
