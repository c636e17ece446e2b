/-
  The walk of the reference's Class, and: the two agree.
-/
import Derived.Test.YtdhibbphjnoikaaDoorBl
import Derived.Outline
namespace Go.Proofs.YtdhibbphjnoikaaDoor
open Go.RowKit
def clsR (c : Int) : Int :=
  if chr c = false then 0 else if (9 ≤ c ∧ c ≤ 13) ∨ c = 32 then 1 else if 97 ≤ c ∧ c ≤ 122 then 2 else if (65 ≤ c ∧ c ≤ 90) ∨ c = 95 then 3 else if 48 ≤ c ∧ c ≤ 57 then 4
  else if amg (⟨#[35, 36, 38, 42, 43, 45, 46, 47, 58, 60, 61, 62, 63, 64, 94, 126, 92]⟩ : ByteArray).data.toList c = true then 5
  else if amg (⟨#[33, 40, 41, 44, 59, 91, 93, 123, 125, 37, 124]⟩ : ByteArray).data.toList c = true then 6
  else if amg (⟨#[39, 34, 96]⟩ : ByteArray).data.toList c = true then 7 else 8
theorem clsR_eq (c : Int) : clsR c = clsP c := by
  cases hc : chr c
  · rw [cls_out hc]; unfold clsR; rw [if_pos hc]
  · obtain ⟨h0, h1⟩ := chr_iff.1 hc
    have h : ∀ n : Fin 256, clsR n.val = clsP n.val := by decide +kernel
    have := h ⟨c.toNat, by omega⟩
    simpa [Int.toNat_of_nonneg h0] using this
theorem clsR_rest {c : Int} (hc : chr c = true) (h1 : ¬ ((9 ≤ c ∧ c ≤ 13) ∨ c = 32)) (h2 : ¬ (97 ≤ c ∧ c ≤ 122)) (h3 : ¬ ((65 ≤ c ∧ c ≤ 90) ∨ c = 95)) (h4 : ¬ (48 ≤ c ∧ c ≤ 57)) :
    clsR c = if amg (⟨#[35, 36, 38, 42, 43, 45, 46, 47, 58, 60, 61, 62, 63, 64, 94, 126, 92]⟩ : ByteArray).data.toList c = true then 5 else if amg (⟨#[33, 40, 41, 44, 59, 91, 93, 123, 125, 37, 124]⟩ : ByteArray).data.toList c = true then 6 else if amg (⟨#[39, 34, 96]⟩ : ByteArray).data.toList c = true then 7 else 8 := by
  unfold clsR
  rw [if_neg (by rw [hc]; decide), if_neg h1, if_neg h2, if_neg h3, if_neg h4]
set_option maxHeartbeats 4000000 in
theorem rclass_any (c : Int) (w : World) : Calls Tryd.prog 26 #[.int .i64 c] w fun e w' => e = .returned (.int .i64 (clsR c)) ∧ w = w' := by
  cases hc : chr c
  · have HE := Lib.hid (show clsR c = 0 by unfold clsR; rw [if_pos hc])
    go_enter Tryd.func26, Tryd.ntmps26
    go_wp2_with fail
    refine (ris_any c _).mono ?_
    rintro e w1 ⟨rfl, rfl⟩
    rw [hc]
    go_wp2_with fail
    go_ret
    exact ⟨ret_i64 HE.out.symm, rfl⟩
  obtain ⟨c0, c1⟩ := chr_iff.1 hc
  have HC := Lib.hid hc
  clear hc
  have hx : (0 ≤ c ∧ c ≤ 8) ∨ (9 ≤ c ∧ c ≤ 13) ∨ (14 ≤ c ∧ c ≤ 31) ∨ (32 ≤ c ∧ c ≤ 32) ∨ (33 ≤ c ∧ c ≤ 47) ∨ (48 ≤ c ∧ c ≤ 57) ∨ (58 ≤ c ∧ c ≤ 64) ∨ (65 ≤ c ∧ c ≤ 90) ∨ (91 ≤ c ∧ c ≤ 94) ∨ (95 ≤ c ∧ c ≤ 95) ∨ (96 ≤ c ∧ c ≤ 96) ∨ (97 ≤ c ∧ c ≤ 122) ∨ (123 ≤ c ∧ c ≤ 255) := by omega
  rcases hx with ⟨i0, i1⟩ | ⟨i0, i1⟩ | ⟨i0, i1⟩ | ⟨i0, i1⟩ | ⟨i0, i1⟩ | ⟨i0, i1⟩ | ⟨i0, i1⟩ | ⟨i0, i1⟩ | ⟨i0, i1⟩ | ⟨i0, i1⟩ | ⟨i0, i1⟩ | ⟨i0, i1⟩ | ⟨i0, i1⟩
  · have hr := clsR_rest HC.out (by omega) (by omega) (by omega) (by omega)
    have t0 : decide (9 ≤ c) = false := by simp; omega
    have t1 : decide (c ≤ 13) = true := by simp; omega
    have t2 : (c == 32) = false := by simp; omega
    have t3 : decide (97 ≤ c) = false := by simp; omega
    have t4 : decide (c ≤ 122) = true := by simp; omega
    have t5 : decide (65 ≤ c) = false := by simp; omega
    have t6 : decide (c ≤ 90) = true := by simp; omega
    have t7 : (c == 95) = false := by simp; omega
    have t8 : decide (48 ≤ c) = false := by simp; omega
    have t9 : decide (c ≤ 57) = true := by simp; omega
    cases h5 : amg (⟨#[35, 36, 38, 42, 43, 45, 46, 47, 58, 60, 61, 62, 63, 64, 94, 126, 92]⟩ : ByteArray).data.toList c
    rotate_left
    · have HE := Lib.hid (show clsR c = 5 from hr.trans (by rw [h5]; first | done | rfl))
      clear hr
      go_enter Tryd.func26, Tryd.ntmps26
      go_wp2_with fail
      refine (ris_any c _).mono ?_
      rintro e w1 ⟨rfl, rfl⟩
      rw [HC.out]
      go_wp2_with fail
      refine (among_any (⟨#[35, 36, 38, 42, 43, 45, 46, 47, 58, 60, 61, 62, 63, 64, 94, 126, 92]⟩ : ByteArray) (by decide) c _).mono ?_
      rintro e w2 ⟨rfl, rfl⟩
      rw [h5]
      go_wp2_with fail
      go_ret
      exact ⟨ret_i64 HE.out.symm, rfl⟩
    cases h6 : amg (⟨#[33, 40, 41, 44, 59, 91, 93, 123, 125, 37, 124]⟩ : ByteArray).data.toList c
    rotate_left
    · have HE := Lib.hid (show clsR c = 6 from hr.trans (by rw [h5, h6]; first | done | rfl))
      clear hr
      go_enter Tryd.func26, Tryd.ntmps26
      go_wp2_with fail
      refine (ris_any c _).mono ?_
      rintro e w1 ⟨rfl, rfl⟩
      rw [HC.out]
      go_wp2_with fail
      refine (among_any (⟨#[35, 36, 38, 42, 43, 45, 46, 47, 58, 60, 61, 62, 63, 64, 94, 126, 92]⟩ : ByteArray) (by decide) c _).mono ?_
      rintro e w2 ⟨rfl, rfl⟩
      rw [h5]
      go_wp2_with fail
      refine (among_any (⟨#[33, 40, 41, 44, 59, 91, 93, 123, 125, 37, 124]⟩ : ByteArray) (by decide) c _).mono ?_
      rintro e w3 ⟨rfl, rfl⟩
      rw [h6]
      go_wp2_with fail
      go_ret
      exact ⟨ret_i64 HE.out.symm, rfl⟩
    cases h7 : amg (⟨#[39, 34, 96]⟩ : ByteArray).data.toList c
    rotate_left
    · have HE := Lib.hid (show clsR c = 7 from hr.trans (by rw [h5, h6, h7]; first | done | rfl))
      clear hr
      go_enter Tryd.func26, Tryd.ntmps26
      go_wp2_with fail
      refine (ris_any c _).mono ?_
      rintro e w1 ⟨rfl, rfl⟩
      rw [HC.out]
      go_wp2_with fail
      refine (among_any (⟨#[35, 36, 38, 42, 43, 45, 46, 47, 58, 60, 61, 62, 63, 64, 94, 126, 92]⟩ : ByteArray) (by decide) c _).mono ?_
      rintro e w2 ⟨rfl, rfl⟩
      rw [h5]
      go_wp2_with fail
      refine (among_any (⟨#[33, 40, 41, 44, 59, 91, 93, 123, 125, 37, 124]⟩ : ByteArray) (by decide) c _).mono ?_
      rintro e w3 ⟨rfl, rfl⟩
      rw [h6]
      go_wp2_with fail
      refine (among_any (⟨#[39, 34, 96]⟩ : ByteArray) (by decide) c _).mono ?_
      rintro e w4 ⟨rfl, rfl⟩
      rw [h7]
      go_wp2_with fail
      go_ret
      exact ⟨ret_i64 HE.out.symm, rfl⟩
    · have HE := Lib.hid (show clsR c = 8 from hr.trans (by rw [h5, h6, h7]; first | done | rfl))
      clear hr
      go_enter Tryd.func26, Tryd.ntmps26
      go_wp2_with fail
      refine (ris_any c _).mono ?_
      rintro e w1 ⟨rfl, rfl⟩
      rw [HC.out]
      go_wp2_with fail
      refine (among_any (⟨#[35, 36, 38, 42, 43, 45, 46, 47, 58, 60, 61, 62, 63, 64, 94, 126, 92]⟩ : ByteArray) (by decide) c _).mono ?_
      rintro e w2 ⟨rfl, rfl⟩
      rw [h5]
      go_wp2_with fail
      refine (among_any (⟨#[33, 40, 41, 44, 59, 91, 93, 123, 125, 37, 124]⟩ : ByteArray) (by decide) c _).mono ?_
      rintro e w3 ⟨rfl, rfl⟩
      rw [h6]
      go_wp2_with fail
      refine (among_any (⟨#[39, 34, 96]⟩ : ByteArray) (by decide) c _).mono ?_
      rintro e w4 ⟨rfl, rfl⟩
      rw [h7]
      go_wp2_with fail
      go_ret
      exact ⟨ret_i64 HE.out.symm, rfl⟩
  · have t0 : decide (9 ≤ c) = true := by simp; omega
    have t1 : decide (c ≤ 13) = true := by simp; omega
    have t2 : (c == 32) = false := by simp; omega
    have t3 : decide (97 ≤ c) = false := by simp; omega
    have t4 : decide (c ≤ 122) = true := by simp; omega
    have t5 : decide (65 ≤ c) = false := by simp; omega
    have t6 : decide (c ≤ 90) = true := by simp; omega
    have t7 : (c == 95) = false := by simp; omega
    have t8 : decide (48 ≤ c) = false := by simp; omega
    have t9 : decide (c ≤ 57) = true := by simp; omega
    have HE := Lib.hid (show clsR c = 1 by unfold clsR; rw [if_neg (by rw [HC.out]; decide), if_pos (by omega)])
    go_enter Tryd.func26, Tryd.ntmps26
    go_wp2_with fail
    refine (ris_any c _).mono ?_
    rintro e w1 ⟨rfl, rfl⟩
    rw [HC.out]
    go_wp2_with fail
    go_ret
    exact ⟨ret_i64 HE.out.symm, rfl⟩
  · have hr := clsR_rest HC.out (by omega) (by omega) (by omega) (by omega)
    have t0 : decide (9 ≤ c) = true := by simp; omega
    have t1 : decide (c ≤ 13) = false := by simp; omega
    have t2 : (c == 32) = false := by simp; omega
    have t3 : decide (97 ≤ c) = false := by simp; omega
    have t4 : decide (c ≤ 122) = true := by simp; omega
    have t5 : decide (65 ≤ c) = false := by simp; omega
    have t6 : decide (c ≤ 90) = true := by simp; omega
    have t7 : (c == 95) = false := by simp; omega
    have t8 : decide (48 ≤ c) = false := by simp; omega
    have t9 : decide (c ≤ 57) = true := by simp; omega
    cases h5 : amg (⟨#[35, 36, 38, 42, 43, 45, 46, 47, 58, 60, 61, 62, 63, 64, 94, 126, 92]⟩ : ByteArray).data.toList c
    rotate_left
    · have HE := Lib.hid (show clsR c = 5 from hr.trans (by rw [h5]; first | done | rfl))
      clear hr
      go_enter Tryd.func26, Tryd.ntmps26
      go_wp2_with fail
      refine (ris_any c _).mono ?_
      rintro e w1 ⟨rfl, rfl⟩
      rw [HC.out]
      go_wp2_with fail
      refine (among_any (⟨#[35, 36, 38, 42, 43, 45, 46, 47, 58, 60, 61, 62, 63, 64, 94, 126, 92]⟩ : ByteArray) (by decide) c _).mono ?_
      rintro e w2 ⟨rfl, rfl⟩
      rw [h5]
      go_wp2_with fail
      go_ret
      exact ⟨ret_i64 HE.out.symm, rfl⟩
    cases h6 : amg (⟨#[33, 40, 41, 44, 59, 91, 93, 123, 125, 37, 124]⟩ : ByteArray).data.toList c
    rotate_left
    · have HE := Lib.hid (show clsR c = 6 from hr.trans (by rw [h5, h6]; first | done | rfl))
      clear hr
      go_enter Tryd.func26, Tryd.ntmps26
      go_wp2_with fail
      refine (ris_any c _).mono ?_
      rintro e w1 ⟨rfl, rfl⟩
      rw [HC.out]
      go_wp2_with fail
      refine (among_any (⟨#[35, 36, 38, 42, 43, 45, 46, 47, 58, 60, 61, 62, 63, 64, 94, 126, 92]⟩ : ByteArray) (by decide) c _).mono ?_
      rintro e w2 ⟨rfl, rfl⟩
      rw [h5]
      go_wp2_with fail
      refine (among_any (⟨#[33, 40, 41, 44, 59, 91, 93, 123, 125, 37, 124]⟩ : ByteArray) (by decide) c _).mono ?_
      rintro e w3 ⟨rfl, rfl⟩
      rw [h6]
      go_wp2_with fail
      go_ret
      exact ⟨ret_i64 HE.out.symm, rfl⟩
    cases h7 : amg (⟨#[39, 34, 96]⟩ : ByteArray).data.toList c
    rotate_left
    · have HE := Lib.hid (show clsR c = 7 from hr.trans (by rw [h5, h6, h7]; first | done | rfl))
      clear hr
      go_enter Tryd.func26, Tryd.ntmps26
      go_wp2_with fail
      refine (ris_any c _).mono ?_
      rintro e w1 ⟨rfl, rfl⟩
      rw [HC.out]
      go_wp2_with fail
      refine (among_any (⟨#[35, 36, 38, 42, 43, 45, 46, 47, 58, 60, 61, 62, 63, 64, 94, 126, 92]⟩ : ByteArray) (by decide) c _).mono ?_
      rintro e w2 ⟨rfl, rfl⟩
      rw [h5]
      go_wp2_with fail
      refine (among_any (⟨#[33, 40, 41, 44, 59, 91, 93, 123, 125, 37, 124]⟩ : ByteArray) (by decide) c _).mono ?_
      rintro e w3 ⟨rfl, rfl⟩
      rw [h6]
      go_wp2_with fail
      refine (among_any (⟨#[39, 34, 96]⟩ : ByteArray) (by decide) c _).mono ?_
      rintro e w4 ⟨rfl, rfl⟩
      rw [h7]
      go_wp2_with fail
      go_ret
      exact ⟨ret_i64 HE.out.symm, rfl⟩
    · have HE := Lib.hid (show clsR c = 8 from hr.trans (by rw [h5, h6, h7]; first | done | rfl))
      clear hr
      go_enter Tryd.func26, Tryd.ntmps26
      go_wp2_with fail
      refine (ris_any c _).mono ?_
      rintro e w1 ⟨rfl, rfl⟩
      rw [HC.out]
      go_wp2_with fail
      refine (among_any (⟨#[35, 36, 38, 42, 43, 45, 46, 47, 58, 60, 61, 62, 63, 64, 94, 126, 92]⟩ : ByteArray) (by decide) c _).mono ?_
      rintro e w2 ⟨rfl, rfl⟩
      rw [h5]
      go_wp2_with fail
      refine (among_any (⟨#[33, 40, 41, 44, 59, 91, 93, 123, 125, 37, 124]⟩ : ByteArray) (by decide) c _).mono ?_
      rintro e w3 ⟨rfl, rfl⟩
      rw [h6]
      go_wp2_with fail
      refine (among_any (⟨#[39, 34, 96]⟩ : ByteArray) (by decide) c _).mono ?_
      rintro e w4 ⟨rfl, rfl⟩
      rw [h7]
      go_wp2_with fail
      go_ret
      exact ⟨ret_i64 HE.out.symm, rfl⟩
  · obtain rfl : c = 32 := by omega
    have HE := Lib.hid (show clsR 32 = 1 by unfold clsR; rw [if_neg (by rw [HC.out]; decide), if_pos (by omega)])
    go_enter Tryd.func26, Tryd.ntmps26
    go_wp2_with fail
    refine (ris_any _ _).mono ?_
    rintro e w1 ⟨rfl, rfl⟩
    rw [HC.out]
    go_wp2_with fail
    go_ret
    exact ⟨ret_i64 HE.out.symm, rfl⟩
  · have hr := clsR_rest HC.out (by omega) (by omega) (by omega) (by omega)
    have t0 : decide (9 ≤ c) = true := by simp; omega
    have t1 : decide (c ≤ 13) = false := by simp; omega
    have t2 : (c == 32) = false := by simp; omega
    have t3 : decide (97 ≤ c) = false := by simp; omega
    have t4 : decide (c ≤ 122) = true := by simp; omega
    have t5 : decide (65 ≤ c) = false := by simp; omega
    have t6 : decide (c ≤ 90) = true := by simp; omega
    have t7 : (c == 95) = false := by simp; omega
    have t8 : decide (48 ≤ c) = false := by simp; omega
    have t9 : decide (c ≤ 57) = true := by simp; omega
    cases h5 : amg (⟨#[35, 36, 38, 42, 43, 45, 46, 47, 58, 60, 61, 62, 63, 64, 94, 126, 92]⟩ : ByteArray).data.toList c
    rotate_left
    · have HE := Lib.hid (show clsR c = 5 from hr.trans (by rw [h5]; first | done | rfl))
      clear hr
      go_enter Tryd.func26, Tryd.ntmps26
      go_wp2_with fail
      refine (ris_any c _).mono ?_
      rintro e w1 ⟨rfl, rfl⟩
      rw [HC.out]
      go_wp2_with fail
      refine (among_any (⟨#[35, 36, 38, 42, 43, 45, 46, 47, 58, 60, 61, 62, 63, 64, 94, 126, 92]⟩ : ByteArray) (by decide) c _).mono ?_
      rintro e w2 ⟨rfl, rfl⟩
      rw [h5]
      go_wp2_with fail
      go_ret
      exact ⟨ret_i64 HE.out.symm, rfl⟩
    cases h6 : amg (⟨#[33, 40, 41, 44, 59, 91, 93, 123, 125, 37, 124]⟩ : ByteArray).data.toList c
    rotate_left
    · have HE := Lib.hid (show clsR c = 6 from hr.trans (by rw [h5, h6]; first | done | rfl))
      clear hr
      go_enter Tryd.func26, Tryd.ntmps26
      go_wp2_with fail
      refine (ris_any c _).mono ?_
      rintro e w1 ⟨rfl, rfl⟩
      rw [HC.out]
      go_wp2_with fail
      refine (among_any (⟨#[35, 36, 38, 42, 43, 45, 46, 47, 58, 60, 61, 62, 63, 64, 94, 126, 92]⟩ : ByteArray) (by decide) c _).mono ?_
      rintro e w2 ⟨rfl, rfl⟩
      rw [h5]
      go_wp2_with fail
      refine (among_any (⟨#[33, 40, 41, 44, 59, 91, 93, 123, 125, 37, 124]⟩ : ByteArray) (by decide) c _).mono ?_
      rintro e w3 ⟨rfl, rfl⟩
      rw [h6]
      go_wp2_with fail
      go_ret
      exact ⟨ret_i64 HE.out.symm, rfl⟩
    cases h7 : amg (⟨#[39, 34, 96]⟩ : ByteArray).data.toList c
    rotate_left
    · have HE := Lib.hid (show clsR c = 7 from hr.trans (by rw [h5, h6, h7]; first | done | rfl))
      clear hr
      go_enter Tryd.func26, Tryd.ntmps26
      go_wp2_with fail
      refine (ris_any c _).mono ?_
      rintro e w1 ⟨rfl, rfl⟩
      rw [HC.out]
      go_wp2_with fail
      refine (among_any (⟨#[35, 36, 38, 42, 43, 45, 46, 47, 58, 60, 61, 62, 63, 64, 94, 126, 92]⟩ : ByteArray) (by decide) c _).mono ?_
      rintro e w2 ⟨rfl, rfl⟩
      rw [h5]
      go_wp2_with fail
      refine (among_any (⟨#[33, 40, 41, 44, 59, 91, 93, 123, 125, 37, 124]⟩ : ByteArray) (by decide) c _).mono ?_
      rintro e w3 ⟨rfl, rfl⟩
      rw [h6]
      go_wp2_with fail
      refine (among_any (⟨#[39, 34, 96]⟩ : ByteArray) (by decide) c _).mono ?_
      rintro e w4 ⟨rfl, rfl⟩
      rw [h7]
      go_wp2_with fail
      go_ret
      exact ⟨ret_i64 HE.out.symm, rfl⟩
    · have HE := Lib.hid (show clsR c = 8 from hr.trans (by rw [h5, h6, h7]; first | done | rfl))
      clear hr
      go_enter Tryd.func26, Tryd.ntmps26
      go_wp2_with fail
      refine (ris_any c _).mono ?_
      rintro e w1 ⟨rfl, rfl⟩
      rw [HC.out]
      go_wp2_with fail
      refine (among_any (⟨#[35, 36, 38, 42, 43, 45, 46, 47, 58, 60, 61, 62, 63, 64, 94, 126, 92]⟩ : ByteArray) (by decide) c _).mono ?_
      rintro e w2 ⟨rfl, rfl⟩
      rw [h5]
      go_wp2_with fail
      refine (among_any (⟨#[33, 40, 41, 44, 59, 91, 93, 123, 125, 37, 124]⟩ : ByteArray) (by decide) c _).mono ?_
      rintro e w3 ⟨rfl, rfl⟩
      rw [h6]
      go_wp2_with fail
      refine (among_any (⟨#[39, 34, 96]⟩ : ByteArray) (by decide) c _).mono ?_
      rintro e w4 ⟨rfl, rfl⟩
      rw [h7]
      go_wp2_with fail
      go_ret
      exact ⟨ret_i64 HE.out.symm, rfl⟩
  · have t0 : decide (9 ≤ c) = true := by simp; omega
    have t1 : decide (c ≤ 13) = false := by simp; omega
    have t2 : (c == 32) = false := by simp; omega
    have t3 : decide (97 ≤ c) = false := by simp; omega
    have t4 : decide (c ≤ 122) = true := by simp; omega
    have t5 : decide (65 ≤ c) = false := by simp; omega
    have t6 : decide (c ≤ 90) = true := by simp; omega
    have t7 : (c == 95) = false := by simp; omega
    have t8 : decide (48 ≤ c) = true := by simp; omega
    have t9 : decide (c ≤ 57) = true := by simp; omega
    have HE := Lib.hid (show clsR c = 4 by unfold clsR; rw [if_neg (by rw [HC.out]; decide), if_neg (by omega), if_neg (by omega), if_neg (by omega), if_pos (by omega)])
    go_enter Tryd.func26, Tryd.ntmps26
    go_wp2_with fail
    refine (ris_any c _).mono ?_
    rintro e w1 ⟨rfl, rfl⟩
    rw [HC.out]
    go_wp2_with fail
    go_ret
    exact ⟨ret_i64 HE.out.symm, rfl⟩
  · have hr := clsR_rest HC.out (by omega) (by omega) (by omega) (by omega)
    have t0 : decide (9 ≤ c) = true := by simp; omega
    have t1 : decide (c ≤ 13) = false := by simp; omega
    have t2 : (c == 32) = false := by simp; omega
    have t3 : decide (97 ≤ c) = false := by simp; omega
    have t4 : decide (c ≤ 122) = true := by simp; omega
    have t5 : decide (65 ≤ c) = false := by simp; omega
    have t6 : decide (c ≤ 90) = true := by simp; omega
    have t7 : (c == 95) = false := by simp; omega
    have t8 : decide (48 ≤ c) = true := by simp; omega
    have t9 : decide (c ≤ 57) = false := by simp; omega
    cases h5 : amg (⟨#[35, 36, 38, 42, 43, 45, 46, 47, 58, 60, 61, 62, 63, 64, 94, 126, 92]⟩ : ByteArray).data.toList c
    rotate_left
    · have HE := Lib.hid (show clsR c = 5 from hr.trans (by rw [h5]; first | done | rfl))
      clear hr
      go_enter Tryd.func26, Tryd.ntmps26
      go_wp2_with fail
      refine (ris_any c _).mono ?_
      rintro e w1 ⟨rfl, rfl⟩
      rw [HC.out]
      go_wp2_with fail
      refine (among_any (⟨#[35, 36, 38, 42, 43, 45, 46, 47, 58, 60, 61, 62, 63, 64, 94, 126, 92]⟩ : ByteArray) (by decide) c _).mono ?_
      rintro e w2 ⟨rfl, rfl⟩
      rw [h5]
      go_wp2_with fail
      go_ret
      exact ⟨ret_i64 HE.out.symm, rfl⟩
    cases h6 : amg (⟨#[33, 40, 41, 44, 59, 91, 93, 123, 125, 37, 124]⟩ : ByteArray).data.toList c
    rotate_left
    · have HE := Lib.hid (show clsR c = 6 from hr.trans (by rw [h5, h6]; first | done | rfl))
      clear hr
      go_enter Tryd.func26, Tryd.ntmps26
      go_wp2_with fail
      refine (ris_any c _).mono ?_
      rintro e w1 ⟨rfl, rfl⟩
      rw [HC.out]
      go_wp2_with fail
      refine (among_any (⟨#[35, 36, 38, 42, 43, 45, 46, 47, 58, 60, 61, 62, 63, 64, 94, 126, 92]⟩ : ByteArray) (by decide) c _).mono ?_
      rintro e w2 ⟨rfl, rfl⟩
      rw [h5]
      go_wp2_with fail
      refine (among_any (⟨#[33, 40, 41, 44, 59, 91, 93, 123, 125, 37, 124]⟩ : ByteArray) (by decide) c _).mono ?_
      rintro e w3 ⟨rfl, rfl⟩
      rw [h6]
      go_wp2_with fail
      go_ret
      exact ⟨ret_i64 HE.out.symm, rfl⟩
    cases h7 : amg (⟨#[39, 34, 96]⟩ : ByteArray).data.toList c
    rotate_left
    · have HE := Lib.hid (show clsR c = 7 from hr.trans (by rw [h5, h6, h7]; first | done | rfl))
      clear hr
      go_enter Tryd.func26, Tryd.ntmps26
      go_wp2_with fail
      refine (ris_any c _).mono ?_
      rintro e w1 ⟨rfl, rfl⟩
      rw [HC.out]
      go_wp2_with fail
      refine (among_any (⟨#[35, 36, 38, 42, 43, 45, 46, 47, 58, 60, 61, 62, 63, 64, 94, 126, 92]⟩ : ByteArray) (by decide) c _).mono ?_
      rintro e w2 ⟨rfl, rfl⟩
      rw [h5]
      go_wp2_with fail
      refine (among_any (⟨#[33, 40, 41, 44, 59, 91, 93, 123, 125, 37, 124]⟩ : ByteArray) (by decide) c _).mono ?_
      rintro e w3 ⟨rfl, rfl⟩
      rw [h6]
      go_wp2_with fail
      refine (among_any (⟨#[39, 34, 96]⟩ : ByteArray) (by decide) c _).mono ?_
      rintro e w4 ⟨rfl, rfl⟩
      rw [h7]
      go_wp2_with fail
      go_ret
      exact ⟨ret_i64 HE.out.symm, rfl⟩
    · have HE := Lib.hid (show clsR c = 8 from hr.trans (by rw [h5, h6, h7]; first | done | rfl))
      clear hr
      go_enter Tryd.func26, Tryd.ntmps26
      go_wp2_with fail
      refine (ris_any c _).mono ?_
      rintro e w1 ⟨rfl, rfl⟩
      rw [HC.out]
      go_wp2_with fail
      refine (among_any (⟨#[35, 36, 38, 42, 43, 45, 46, 47, 58, 60, 61, 62, 63, 64, 94, 126, 92]⟩ : ByteArray) (by decide) c _).mono ?_
      rintro e w2 ⟨rfl, rfl⟩
      rw [h5]
      go_wp2_with fail
      refine (among_any (⟨#[33, 40, 41, 44, 59, 91, 93, 123, 125, 37, 124]⟩ : ByteArray) (by decide) c _).mono ?_
      rintro e w3 ⟨rfl, rfl⟩
      rw [h6]
      go_wp2_with fail
      refine (among_any (⟨#[39, 34, 96]⟩ : ByteArray) (by decide) c _).mono ?_
      rintro e w4 ⟨rfl, rfl⟩
      rw [h7]
      go_wp2_with fail
      go_ret
      exact ⟨ret_i64 HE.out.symm, rfl⟩
  · have t0 : decide (9 ≤ c) = true := by simp; omega
    have t1 : decide (c ≤ 13) = false := by simp; omega
    have t2 : (c == 32) = false := by simp; omega
    have t3 : decide (97 ≤ c) = false := by simp; omega
    have t4 : decide (c ≤ 122) = true := by simp; omega
    have t5 : decide (65 ≤ c) = true := by simp; omega
    have t6 : decide (c ≤ 90) = true := by simp; omega
    have t7 : (c == 95) = false := by simp; omega
    have t8 : decide (48 ≤ c) = true := by simp; omega
    have t9 : decide (c ≤ 57) = false := by simp; omega
    have HE := Lib.hid (show clsR c = 3 by unfold clsR; rw [if_neg (by rw [HC.out]; decide), if_neg (by omega), if_neg (by omega), if_pos (by omega)])
    go_enter Tryd.func26, Tryd.ntmps26
    go_wp2_with fail
    refine (ris_any c _).mono ?_
    rintro e w1 ⟨rfl, rfl⟩
    rw [HC.out]
    go_wp2_with fail
    go_ret
    exact ⟨ret_i64 HE.out.symm, rfl⟩
  · have hr := clsR_rest HC.out (by omega) (by omega) (by omega) (by omega)
    have t0 : decide (9 ≤ c) = true := by simp; omega
    have t1 : decide (c ≤ 13) = false := by simp; omega
    have t2 : (c == 32) = false := by simp; omega
    have t3 : decide (97 ≤ c) = false := by simp; omega
    have t4 : decide (c ≤ 122) = true := by simp; omega
    have t5 : decide (65 ≤ c) = true := by simp; omega
    have t6 : decide (c ≤ 90) = false := by simp; omega
    have t7 : (c == 95) = false := by simp; omega
    have t8 : decide (48 ≤ c) = true := by simp; omega
    have t9 : decide (c ≤ 57) = false := by simp; omega
    cases h5 : amg (⟨#[35, 36, 38, 42, 43, 45, 46, 47, 58, 60, 61, 62, 63, 64, 94, 126, 92]⟩ : ByteArray).data.toList c
    rotate_left
    · have HE := Lib.hid (show clsR c = 5 from hr.trans (by rw [h5]; first | done | rfl))
      clear hr
      go_enter Tryd.func26, Tryd.ntmps26
      go_wp2_with fail
      refine (ris_any c _).mono ?_
      rintro e w1 ⟨rfl, rfl⟩
      rw [HC.out]
      go_wp2_with fail
      refine (among_any (⟨#[35, 36, 38, 42, 43, 45, 46, 47, 58, 60, 61, 62, 63, 64, 94, 126, 92]⟩ : ByteArray) (by decide) c _).mono ?_
      rintro e w2 ⟨rfl, rfl⟩
      rw [h5]
      go_wp2_with fail
      go_ret
      exact ⟨ret_i64 HE.out.symm, rfl⟩
    cases h6 : amg (⟨#[33, 40, 41, 44, 59, 91, 93, 123, 125, 37, 124]⟩ : ByteArray).data.toList c
    rotate_left
    · have HE := Lib.hid (show clsR c = 6 from hr.trans (by rw [h5, h6]; first | done | rfl))
      clear hr
      go_enter Tryd.func26, Tryd.ntmps26
      go_wp2_with fail
      refine (ris_any c _).mono ?_
      rintro e w1 ⟨rfl, rfl⟩
      rw [HC.out]
      go_wp2_with fail
      refine (among_any (⟨#[35, 36, 38, 42, 43, 45, 46, 47, 58, 60, 61, 62, 63, 64, 94, 126, 92]⟩ : ByteArray) (by decide) c _).mono ?_
      rintro e w2 ⟨rfl, rfl⟩
      rw [h5]
      go_wp2_with fail
      refine (among_any (⟨#[33, 40, 41, 44, 59, 91, 93, 123, 125, 37, 124]⟩ : ByteArray) (by decide) c _).mono ?_
      rintro e w3 ⟨rfl, rfl⟩
      rw [h6]
      go_wp2_with fail
      go_ret
      exact ⟨ret_i64 HE.out.symm, rfl⟩
    cases h7 : amg (⟨#[39, 34, 96]⟩ : ByteArray).data.toList c
    rotate_left
    · have HE := Lib.hid (show clsR c = 7 from hr.trans (by rw [h5, h6, h7]; first | done | rfl))
      clear hr
      go_enter Tryd.func26, Tryd.ntmps26
      go_wp2_with fail
      refine (ris_any c _).mono ?_
      rintro e w1 ⟨rfl, rfl⟩
      rw [HC.out]
      go_wp2_with fail
      refine (among_any (⟨#[35, 36, 38, 42, 43, 45, 46, 47, 58, 60, 61, 62, 63, 64, 94, 126, 92]⟩ : ByteArray) (by decide) c _).mono ?_
      rintro e w2 ⟨rfl, rfl⟩
      rw [h5]
      go_wp2_with fail
      refine (among_any (⟨#[33, 40, 41, 44, 59, 91, 93, 123, 125, 37, 124]⟩ : ByteArray) (by decide) c _).mono ?_
      rintro e w3 ⟨rfl, rfl⟩
      rw [h6]
      go_wp2_with fail
      refine (among_any (⟨#[39, 34, 96]⟩ : ByteArray) (by decide) c _).mono ?_
      rintro e w4 ⟨rfl, rfl⟩
      rw [h7]
      go_wp2_with fail
      go_ret
      exact ⟨ret_i64 HE.out.symm, rfl⟩
    · have HE := Lib.hid (show clsR c = 8 from hr.trans (by rw [h5, h6, h7]; first | done | rfl))
      clear hr
      go_enter Tryd.func26, Tryd.ntmps26
      go_wp2_with fail
      refine (ris_any c _).mono ?_
      rintro e w1 ⟨rfl, rfl⟩
      rw [HC.out]
      go_wp2_with fail
      refine (among_any (⟨#[35, 36, 38, 42, 43, 45, 46, 47, 58, 60, 61, 62, 63, 64, 94, 126, 92]⟩ : ByteArray) (by decide) c _).mono ?_
      rintro e w2 ⟨rfl, rfl⟩
      rw [h5]
      go_wp2_with fail
      refine (among_any (⟨#[33, 40, 41, 44, 59, 91, 93, 123, 125, 37, 124]⟩ : ByteArray) (by decide) c _).mono ?_
      rintro e w3 ⟨rfl, rfl⟩
      rw [h6]
      go_wp2_with fail
      refine (among_any (⟨#[39, 34, 96]⟩ : ByteArray) (by decide) c _).mono ?_
      rintro e w4 ⟨rfl, rfl⟩
      rw [h7]
      go_wp2_with fail
      go_ret
      exact ⟨ret_i64 HE.out.symm, rfl⟩
  · obtain rfl : c = 95 := by omega
    have HE := Lib.hid (show clsR 95 = 3 by unfold clsR; rw [if_neg (by rw [HC.out]; decide), if_neg (by omega), if_neg (by omega), if_pos (by omega)])
    go_enter Tryd.func26, Tryd.ntmps26
    go_wp2_with fail
    refine (ris_any _ _).mono ?_
    rintro e w1 ⟨rfl, rfl⟩
    rw [HC.out]
    go_wp2_with fail
    go_ret
    exact ⟨ret_i64 HE.out.symm, rfl⟩
  · obtain rfl : c = 96 := by omega
    have hr := clsR_rest HC.out (by omega) (by omega) (by omega) (by omega)
    cases h5 : amg (⟨#[35, 36, 38, 42, 43, 45, 46, 47, 58, 60, 61, 62, 63, 64, 94, 126, 92]⟩ : ByteArray).data.toList 96
    rotate_left
    · have HE := Lib.hid (show clsR 96 = 5 from hr.trans (by rw [h5]; first | done | rfl))
      clear hr
      go_enter Tryd.func26, Tryd.ntmps26
      go_wp2_with fail
      refine (ris_any _ _).mono ?_
      rintro e w1 ⟨rfl, rfl⟩
      rw [HC.out]
      go_wp2_with fail
      refine (among_any (⟨#[35, 36, 38, 42, 43, 45, 46, 47, 58, 60, 61, 62, 63, 64, 94, 126, 92]⟩ : ByteArray) (by decide) _ _).mono ?_
      rintro e w2 ⟨rfl, rfl⟩
      rw [h5]
      go_wp2_with fail
      go_ret
      exact ⟨ret_i64 HE.out.symm, rfl⟩
    cases h6 : amg (⟨#[33, 40, 41, 44, 59, 91, 93, 123, 125, 37, 124]⟩ : ByteArray).data.toList 96
    rotate_left
    · have HE := Lib.hid (show clsR 96 = 6 from hr.trans (by rw [h5, h6]; first | done | rfl))
      clear hr
      go_enter Tryd.func26, Tryd.ntmps26
      go_wp2_with fail
      refine (ris_any _ _).mono ?_
      rintro e w1 ⟨rfl, rfl⟩
      rw [HC.out]
      go_wp2_with fail
      refine (among_any (⟨#[35, 36, 38, 42, 43, 45, 46, 47, 58, 60, 61, 62, 63, 64, 94, 126, 92]⟩ : ByteArray) (by decide) _ _).mono ?_
      rintro e w2 ⟨rfl, rfl⟩
      rw [h5]
      go_wp2_with fail
      refine (among_any (⟨#[33, 40, 41, 44, 59, 91, 93, 123, 125, 37, 124]⟩ : ByteArray) (by decide) _ _).mono ?_
      rintro e w3 ⟨rfl, rfl⟩
      rw [h6]
      go_wp2_with fail
      go_ret
      exact ⟨ret_i64 HE.out.symm, rfl⟩
    cases h7 : amg (⟨#[39, 34, 96]⟩ : ByteArray).data.toList 96
    rotate_left
    · have HE := Lib.hid (show clsR 96 = 7 from hr.trans (by rw [h5, h6, h7]; first | done | rfl))
      clear hr
      go_enter Tryd.func26, Tryd.ntmps26
      go_wp2_with fail
      refine (ris_any _ _).mono ?_
      rintro e w1 ⟨rfl, rfl⟩
      rw [HC.out]
      go_wp2_with fail
      refine (among_any (⟨#[35, 36, 38, 42, 43, 45, 46, 47, 58, 60, 61, 62, 63, 64, 94, 126, 92]⟩ : ByteArray) (by decide) _ _).mono ?_
      rintro e w2 ⟨rfl, rfl⟩
      rw [h5]
      go_wp2_with fail
      refine (among_any (⟨#[33, 40, 41, 44, 59, 91, 93, 123, 125, 37, 124]⟩ : ByteArray) (by decide) _ _).mono ?_
      rintro e w3 ⟨rfl, rfl⟩
      rw [h6]
      go_wp2_with fail
      refine (among_any (⟨#[39, 34, 96]⟩ : ByteArray) (by decide) _ _).mono ?_
      rintro e w4 ⟨rfl, rfl⟩
      rw [h7]
      go_wp2_with fail
      go_ret
      exact ⟨ret_i64 HE.out.symm, rfl⟩
    · have HE := Lib.hid (show clsR 96 = 8 from hr.trans (by rw [h5, h6, h7]; first | done | rfl))
      clear hr
      go_enter Tryd.func26, Tryd.ntmps26
      go_wp2_with fail
      refine (ris_any _ _).mono ?_
      rintro e w1 ⟨rfl, rfl⟩
      rw [HC.out]
      go_wp2_with fail
      refine (among_any (⟨#[35, 36, 38, 42, 43, 45, 46, 47, 58, 60, 61, 62, 63, 64, 94, 126, 92]⟩ : ByteArray) (by decide) _ _).mono ?_
      rintro e w2 ⟨rfl, rfl⟩
      rw [h5]
      go_wp2_with fail
      refine (among_any (⟨#[33, 40, 41, 44, 59, 91, 93, 123, 125, 37, 124]⟩ : ByteArray) (by decide) _ _).mono ?_
      rintro e w3 ⟨rfl, rfl⟩
      rw [h6]
      go_wp2_with fail
      refine (among_any (⟨#[39, 34, 96]⟩ : ByteArray) (by decide) _ _).mono ?_
      rintro e w4 ⟨rfl, rfl⟩
      rw [h7]
      go_wp2_with fail
      go_ret
      exact ⟨ret_i64 HE.out.symm, rfl⟩
  · have t0 : decide (9 ≤ c) = true := by simp; omega
    have t1 : decide (c ≤ 13) = false := by simp; omega
    have t2 : (c == 32) = false := by simp; omega
    have t3 : decide (97 ≤ c) = true := by simp; omega
    have t4 : decide (c ≤ 122) = true := by simp; omega
    have t5 : decide (65 ≤ c) = true := by simp; omega
    have t6 : decide (c ≤ 90) = false := by simp; omega
    have t7 : (c == 95) = false := by simp; omega
    have t8 : decide (48 ≤ c) = true := by simp; omega
    have t9 : decide (c ≤ 57) = false := by simp; omega
    have HE := Lib.hid (show clsR c = 2 by unfold clsR; rw [if_neg (by rw [HC.out]; decide), if_neg (by omega), if_pos (by omega)])
    go_enter Tryd.func26, Tryd.ntmps26
    go_wp2_with fail
    refine (ris_any c _).mono ?_
    rintro e w1 ⟨rfl, rfl⟩
    rw [HC.out]
    go_wp2_with fail
    go_ret
    exact ⟨ret_i64 HE.out.symm, rfl⟩
  · have hr := clsR_rest HC.out (by omega) (by omega) (by omega) (by omega)
    have t0 : decide (9 ≤ c) = true := by simp; omega
    have t1 : decide (c ≤ 13) = false := by simp; omega
    have t2 : (c == 32) = false := by simp; omega
    have t3 : decide (97 ≤ c) = true := by simp; omega
    have t4 : decide (c ≤ 122) = false := by simp; omega
    have t5 : decide (65 ≤ c) = true := by simp; omega
    have t6 : decide (c ≤ 90) = false := by simp; omega
    have t7 : (c == 95) = false := by simp; omega
    have t8 : decide (48 ≤ c) = true := by simp; omega
    have t9 : decide (c ≤ 57) = false := by simp; omega
    cases h5 : amg (⟨#[35, 36, 38, 42, 43, 45, 46, 47, 58, 60, 61, 62, 63, 64, 94, 126, 92]⟩ : ByteArray).data.toList c
    rotate_left
    · have HE := Lib.hid (show clsR c = 5 from hr.trans (by rw [h5]; first | done | rfl))
      clear hr
      go_enter Tryd.func26, Tryd.ntmps26
      go_wp2_with fail
      refine (ris_any c _).mono ?_
      rintro e w1 ⟨rfl, rfl⟩
      rw [HC.out]
      go_wp2_with fail
      refine (among_any (⟨#[35, 36, 38, 42, 43, 45, 46, 47, 58, 60, 61, 62, 63, 64, 94, 126, 92]⟩ : ByteArray) (by decide) c _).mono ?_
      rintro e w2 ⟨rfl, rfl⟩
      rw [h5]
      go_wp2_with fail
      go_ret
      exact ⟨ret_i64 HE.out.symm, rfl⟩
    cases h6 : amg (⟨#[33, 40, 41, 44, 59, 91, 93, 123, 125, 37, 124]⟩ : ByteArray).data.toList c
    rotate_left
    · have HE := Lib.hid (show clsR c = 6 from hr.trans (by rw [h5, h6]; first | done | rfl))
      clear hr
      go_enter Tryd.func26, Tryd.ntmps26
      go_wp2_with fail
      refine (ris_any c _).mono ?_
      rintro e w1 ⟨rfl, rfl⟩
      rw [HC.out]
      go_wp2_with fail
      refine (among_any (⟨#[35, 36, 38, 42, 43, 45, 46, 47, 58, 60, 61, 62, 63, 64, 94, 126, 92]⟩ : ByteArray) (by decide) c _).mono ?_
      rintro e w2 ⟨rfl, rfl⟩
      rw [h5]
      go_wp2_with fail
      refine (among_any (⟨#[33, 40, 41, 44, 59, 91, 93, 123, 125, 37, 124]⟩ : ByteArray) (by decide) c _).mono ?_
      rintro e w3 ⟨rfl, rfl⟩
      rw [h6]
      go_wp2_with fail
      go_ret
      exact ⟨ret_i64 HE.out.symm, rfl⟩
    cases h7 : amg (⟨#[39, 34, 96]⟩ : ByteArray).data.toList c
    rotate_left
    · have HE := Lib.hid (show clsR c = 7 from hr.trans (by rw [h5, h6, h7]; first | done | rfl))
      clear hr
      go_enter Tryd.func26, Tryd.ntmps26
      go_wp2_with fail
      refine (ris_any c _).mono ?_
      rintro e w1 ⟨rfl, rfl⟩
      rw [HC.out]
      go_wp2_with fail
      refine (among_any (⟨#[35, 36, 38, 42, 43, 45, 46, 47, 58, 60, 61, 62, 63, 64, 94, 126, 92]⟩ : ByteArray) (by decide) c _).mono ?_
      rintro e w2 ⟨rfl, rfl⟩
      rw [h5]
      go_wp2_with fail
      refine (among_any (⟨#[33, 40, 41, 44, 59, 91, 93, 123, 125, 37, 124]⟩ : ByteArray) (by decide) c _).mono ?_
      rintro e w3 ⟨rfl, rfl⟩
      rw [h6]
      go_wp2_with fail
      refine (among_any (⟨#[39, 34, 96]⟩ : ByteArray) (by decide) c _).mono ?_
      rintro e w4 ⟨rfl, rfl⟩
      rw [h7]
      go_wp2_with fail
      go_ret
      exact ⟨ret_i64 HE.out.symm, rfl⟩
    · have HE := Lib.hid (show clsR c = 8 from hr.trans (by rw [h5, h6, h7]; first | done | rfl))
      clear hr
      go_enter Tryd.func26, Tryd.ntmps26
      go_wp2_with fail
      refine (ris_any c _).mono ?_
      rintro e w1 ⟨rfl, rfl⟩
      rw [HC.out]
      go_wp2_with fail
      refine (among_any (⟨#[35, 36, 38, 42, 43, 45, 46, 47, 58, 60, 61, 62, 63, 64, 94, 126, 92]⟩ : ByteArray) (by decide) c _).mono ?_
      rintro e w2 ⟨rfl, rfl⟩
      rw [h5]
      go_wp2_with fail
      refine (among_any (⟨#[33, 40, 41, 44, 59, 91, 93, 123, 125, 37, 124]⟩ : ByteArray) (by decide) c _).mono ?_
      rintro e w3 ⟨rfl, rfl⟩
      rw [h6]
      go_wp2_with fail
      refine (among_any (⟨#[39, 34, 96]⟩ : ByteArray) (by decide) c _).mono ?_
      rintro e w4 ⟨rfl, rfl⟩
      rw [h7]
      go_wp2_with fail
      go_ret
      exact ⟨ret_i64 HE.out.symm, rfl⟩
end Go.Proofs.YtdhibbphjnoikaaDoor
