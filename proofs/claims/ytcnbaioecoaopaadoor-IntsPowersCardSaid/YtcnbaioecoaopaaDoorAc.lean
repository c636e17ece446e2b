/-
  The walk of times.
-/
import Derived.Test.YtcnbaioecoaopaaDoorAb
namespace Go.Proofs.YtcnbaioecoaopaaDoor
open Go.RowKit
theorem wrap_wf (n : Int) : inR (wrap64 n) := by unfold inR wrap64; omega
theorem times_key {a b : Int} (ha : inR a) (hb : inR b) (h0 : b ≠ 0) (h1 : ¬ (b = -1 ∧ a = -9223372036854775808)) (h : wrap64 ((wrap64 (a * b)).tdiv b) = a) : inR (a * b) := by
  by_cases hb1 : b = -1
  · subst hb1
    unfold inR at *
    omega
  · have hn := wrap_wf (a * b)
    rw [wrap_in (tdiv_in hn h0 (fun h => hb1 h.2))] at h
    have h2 := Int.mul_tdiv_add_tmod (wrap64 (a * b)) b
    have h3 : ((wrap64 (a * b)).tmod b).natAbs < b.natAbs := by
      rw [Int.natAbs_tmod]; exact Nat.mod_lt _ (by omega)
    rw [h] at h2
    have hc : b * a = a * b := Int.mul_comm b a
    rw [hc] at h2
    have hd : wrap64 (a * b) = (a * b + 9223372036854775808) % 18446744073709551616 - 9223372036854775808 := by unfold wrap64; rfl
    generalize (wrap64 (a * b)).tmod b = r at h2 h3
    generalize wrap64 (a * b) = n at h2 hd hn
    generalize a * b = p at h2 hd ⊢
    unfold inR at *
    omega
theorem times_ok {a b : Int} (ha : inR a) (h0 : b ≠ 0) (h : inR (a * b)) : wrap64 ((wrap64 (a * b)).tdiv b) = a := by
  rw [wrap_in h, Int.mul_tdiv_cancel _ h0, wrap_in ha]
theorem times_any (a b : Int) (ha : inR a) (hb : inR b) (w : World) :
    Calls Tryd.prog 50 #[.int .i64 a, .int .i64 b] w fun e w' => e = .returned (pair (ovf (a * b))) ∧ w = w' := by
  have hz : ovf 0 = (0, 0) := ovf_in (by decide)
  by_cases ha0 : a = 0
  · subst ha0
    have HE : Hid (ovf (0 * b) = (0, 0)) := Lib.hid (by rw [Int.zero_mul, hz])
    clear hz ha hb
    go_enter Tryd.func50, Tryd.ntmps50
    go_wp2
    go_ret2
    exact ⟨ret_pair rfl HE.out, rfl⟩
  · by_cases hb0 : b = 0
    · subst hb0
      have HE : Hid (ovf (a * 0) = (0, 0)) := Lib.hid (by rw [Int.mul_zero, hz])
      clear hz ha hb
      go_enter Tryd.func50, Tryd.ntmps50
      go_wp2
      go_ret2
      exact ⟨ret_pair rfl HE.out, rfl⟩
    · have ba : (a == 0) = false := by simpa using ha0
      have bb : (b == 0) = false := by simpa using hb0
      by_cases h1 : b = -1 ∧ a = -9223372036854775808
      · obtain ⟨rfl, rfl⟩ := h1
        clear hz ha hb ha0 hb0
        go_enter Tryd.func50, Tryd.ntmps50
        go_wp2
        go_ret2
        exact ⟨rfl, rfl⟩
      · by_cases hk : wrap64 ((wrap64 (a * b)).tdiv b) = a
        · have hin := times_key ha hb hb0 h1 hk
          have HE := Lib.hid (ovf_in hin)
          have HW := Lib.hid (wrap_in hin)
          have bk : (wrap64 ((wrap64 (a * b)).tdiv b) != a) = false := by simpa using hk
          have H1 := Lib.hid h1
          clear hz hin ha hb
          by_cases hb1 : b = -1
          · have b1 : (b == -1) = true := by simpa using hb1
            have a1 : (a == -9223372036854775808) = false := by simp; exact fun e => h1 ⟨hb1, e⟩
            clear hb1 h1
            go_enter Tryd.func50, Tryd.ntmps50
            go_wp2
            go_ret2
            exact ⟨ret_pair HW.out HE.out, rfl⟩
          · have b1 : (b == -1) = false := by simpa using hb1
            clear hb1 h1
            go_enter Tryd.func50, Tryd.ntmps50
            go_wp2
            go_ret2
            exact ⟨ret_pair HW.out HE.out, rfl⟩
        · have hin : ¬ inR (a * b) := fun h => hk (times_ok ha hb0 h)
          have HE := Lib.hid (ovf_out hin)
          have bk : (wrap64 ((wrap64 (a * b)).tdiv b) != a) = true := by simpa using hk
          clear hz hin ha hb
          by_cases hb1 : b = -1
          · have b1 : (b == -1) = true := by simpa using hb1
            have a1 : (a == -9223372036854775808) = false := by simp; exact fun e => h1 ⟨hb1, e⟩
            clear hb1 h1
            go_enter Tryd.func50, Tryd.ntmps50
            go_wp2
            go_ret2
            exact ⟨ret_pair rfl HE.out, rfl⟩
          · have b1 : (b == -1) = false := by simpa using hb1
            clear hb1 h1
            go_enter Tryd.func50, Tryd.ntmps50
            go_wp2
            go_ret2
            exact ⟨ret_pair rfl HE.out, rfl⟩
end Go.Proofs.YtcnbaioecoaopaaDoor
