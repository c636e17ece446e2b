/-
  The walk of the law CharsClasses.
-/
import Derived.Test.YtdhibbphjnoikaaDoorBo
import Derived.Outline
namespace Go.Proofs.YtdhibbphjnoikaaDoor
open Go.RowKit
/-- the ways of a character -/
def wayC (c : Int) : Bool :=
  (clsP c == 4 && (digS c 10).2 && (digS c 36).2 && !(c == 95)) ||
  ((clsP c == 2 || clsP c == 3) && !(digS c 10).2 && (digS c 36).2 && !(c == 95)) ||
  (clsP c == 3 && !(digS c 10).2 && !(digS c 36).2 && (c == 95)) ||
  ((clsP c == 1 || clsP c == 5 || clsP c == 6 || clsP c == 7 || clsP c == 8) && !(digS c 10).2 && !(digS c 36).2 && !(c == 95))
theorem wayC_all {c : Int} (hc : chr c = true) : wayC c = true := by
  obtain ⟨h0, h1⟩ := chr_iff.1 hc
  have h : ∀ n : Fin 256, wayC n.val = true := by decide +kernel
  have := h ⟨c.toNat, by omega⟩
  simpa [Int.toNat_of_nonneg h0] using this
theorem dig_out {c b : Int} (hc : chr c = false) : (digS c b).2 = false := by
  rw [chr_no] at hc
  have h := dg_cases c
  rw [dig_no (by omega)]
set_option maxHeartbeats 4000000 in
theorem law_classes (c : Int) (w : World) : Calls Tryd.prog 4 #[.int .i64 c] w fun e w' => e = .returned (.bool true) ∧ Below w.heap.size w w' := by
  cases hc : chr c
  · have HK := Lib.hid (cls_out hc)
    have HD := Lib.hid (dig_out (b := 10) hc)
    have HE := Lib.hid (dig_out (b := 36) hc)
    rw [chr_no] at hc
    by_cases hneg : c < 0
    · have t0 : decide (0 ≤ c) = false := by simp; omega
      have t1 : ¬ c = 95 := by omega
      have t3 : (c != 95) = true := by simp; omega
      clear hc
      go_enter Tryd.func4, Tryd.ntmps4
      go_wp2_with fail
      refine (class_any c _).mono ?_
      rintro e w1 ⟨rfl, HB1⟩
      rw [HK.out]
      replace HB1 := Lib.hid HB1
      go_wp2_with fail
      refine (digit_any c 10 _).mono ?_
      rintro e w2 ⟨rfl, rfl⟩
      rw [HD.out]
      generalize (digS c 10).1 = v1
      go_wp2_with fail
      refine (digit_any c 36 _).mono ?_
      rintro e w3 ⟨rfl, rfl⟩
      rw [HE.out]
      generalize (digS c 36).1 = v2
      go_wp2_with fail
      refine (awake_any _).mono ?_
      rintro e w4 ⟨rfl, HB⟩
      replace HB := Lib.hid (bNext HB1.out HB)
      go_wp2_with fail
      go_ret
      exact ⟨rfl, HB.out⟩
    · have t0 : decide (0 ≤ c) = true := by simp; omega
      have t1 : ¬ c = 95 := by omega
      have t3 : (c != 95) = true := by simp; omega
      have t2 : decide (c ≤ 255) = false := by simp; omega
      clear hc
      go_enter Tryd.func4, Tryd.ntmps4
      go_wp2_with fail
      refine (class_any c _).mono ?_
      rintro e w1 ⟨rfl, HB1⟩
      rw [HK.out]
      replace HB1 := Lib.hid HB1
      go_wp2_with fail
      refine (digit_any c 10 _).mono ?_
      rintro e w2 ⟨rfl, rfl⟩
      rw [HD.out]
      generalize (digS c 10).1 = v1
      go_wp2_with fail
      refine (digit_any c 36 _).mono ?_
      rintro e w3 ⟨rfl, rfl⟩
      rw [HE.out]
      generalize (digS c 36).1 = v2
      go_wp2_with fail
      refine (awake_any _).mono ?_
      rintro e w4 ⟨rfl, HB⟩
      replace HB := Lib.hid (bNext HB1.out HB)
      go_wp2_with fail
      go_ret
      exact ⟨rfl, HB.out⟩
  · have hw := wayC_all hc
    obtain ⟨c0, c1⟩ := chr_iff.1 hc
    have t0 : decide (0 ≤ c) = true := by simp; omega
    have t2 : decide (c ≤ 255) = true := by simp; omega
    clear hc
    unfold wayC at hw
    simp only [Bool.or_eq_true, Bool.and_eq_true, Bool.not_eq_true', beq_iff_eq, or_assoc, and_assoc] at hw
    rcases hw with ⟨hk, hd, he, t1⟩ | ⟨hk | hk, hd, he, t1⟩ | ⟨hk, hd, he, t1⟩ | ⟨hk | hk | hk | hk | hk, hd, he, t1⟩
    all_goals
      have HK := Lib.hid hk
      have HD := Lib.hid hd
      have HE := Lib.hid he
      clear hk hd he
    · replace t1 : ¬ c = 95 := by simpa using t1
      have t3 : (c != 95) = true := by simp; omega
      go_enter Tryd.func4, Tryd.ntmps4
      go_wp2_with fail
      refine (class_any c _).mono ?_
      rintro e w1 ⟨rfl, HB1⟩
      rw [HK.out]
      replace HB1 := Lib.hid HB1
      go_wp2_with fail
      refine (digit_any c 10 _).mono ?_
      rintro e w2 ⟨rfl, rfl⟩
      rw [HD.out]
      generalize (digS c 10).1 = v1
      go_wp2_with fail
      refine (digit_any c 36 _).mono ?_
      rintro e w3 ⟨rfl, rfl⟩
      rw [HE.out]
      generalize (digS c 36).1 = v2
      go_wp2_with fail
      refine (awake_any _).mono ?_
      rintro e w4 ⟨rfl, HB⟩
      replace HB := Lib.hid (bNext HB1.out HB)
      go_wp2_with fail
      go_ret
      exact ⟨rfl, HB.out⟩
    · replace t1 : ¬ c = 95 := by simpa using t1
      have t3 : (c != 95) = true := by simp; omega
      go_enter Tryd.func4, Tryd.ntmps4
      go_wp2_with fail
      refine (class_any c _).mono ?_
      rintro e w1 ⟨rfl, HB1⟩
      rw [HK.out]
      replace HB1 := Lib.hid HB1
      go_wp2_with fail
      refine (digit_any c 10 _).mono ?_
      rintro e w2 ⟨rfl, rfl⟩
      rw [HD.out]
      generalize (digS c 10).1 = v1
      go_wp2_with fail
      refine (digit_any c 36 _).mono ?_
      rintro e w3 ⟨rfl, rfl⟩
      rw [HE.out]
      generalize (digS c 36).1 = v2
      go_wp2_with fail
      refine (awake_any _).mono ?_
      rintro e w4 ⟨rfl, HB⟩
      replace HB := Lib.hid (bNext HB1.out HB)
      go_wp2_with fail
      go_ret
      exact ⟨rfl, HB.out⟩
    · replace t1 : ¬ c = 95 := by simpa using t1
      have t3 : (c != 95) = true := by simp; omega
      go_enter Tryd.func4, Tryd.ntmps4
      go_wp2_with fail
      refine (class_any c _).mono ?_
      rintro e w1 ⟨rfl, HB1⟩
      rw [HK.out]
      replace HB1 := Lib.hid HB1
      go_wp2_with fail
      refine (digit_any c 10 _).mono ?_
      rintro e w2 ⟨rfl, rfl⟩
      rw [HD.out]
      generalize (digS c 10).1 = v1
      go_wp2_with fail
      refine (digit_any c 36 _).mono ?_
      rintro e w3 ⟨rfl, rfl⟩
      rw [HE.out]
      generalize (digS c 36).1 = v2
      go_wp2_with fail
      refine (awake_any _).mono ?_
      rintro e w4 ⟨rfl, HB⟩
      replace HB := Lib.hid (bNext HB1.out HB)
      go_wp2_with fail
      go_ret
      exact ⟨rfl, HB.out⟩
    · subst t1
      go_enter Tryd.func4, Tryd.ntmps4
      go_wp2_with fail
      refine (class_any 95 _).mono ?_
      rintro e w1 ⟨rfl, HB1⟩
      rw [HK.out]
      replace HB1 := Lib.hid HB1
      go_wp2_with fail
      refine (digit_any 95 10 _).mono ?_
      rintro e w2 ⟨rfl, rfl⟩
      rw [HD.out]
      generalize (digS 95 10).1 = v1
      go_wp2_with fail
      refine (digit_any 95 36 _).mono ?_
      rintro e w3 ⟨rfl, rfl⟩
      rw [HE.out]
      generalize (digS 95 36).1 = v2
      go_wp2_with fail
      refine (awake_any _).mono ?_
      rintro e w4 ⟨rfl, HB⟩
      replace HB := Lib.hid (bNext HB1.out HB)
      go_wp2_with fail
      go_ret
      exact ⟨rfl, HB.out⟩
    · replace t1 : ¬ c = 95 := by simpa using t1
      have t3 : (c != 95) = true := by simp; omega
      go_enter Tryd.func4, Tryd.ntmps4
      go_wp2_with fail
      refine (class_any c _).mono ?_
      rintro e w1 ⟨rfl, HB1⟩
      rw [HK.out]
      replace HB1 := Lib.hid HB1
      go_wp2_with fail
      refine (digit_any c 10 _).mono ?_
      rintro e w2 ⟨rfl, rfl⟩
      rw [HD.out]
      generalize (digS c 10).1 = v1
      go_wp2_with fail
      refine (digit_any c 36 _).mono ?_
      rintro e w3 ⟨rfl, rfl⟩
      rw [HE.out]
      generalize (digS c 36).1 = v2
      go_wp2_with fail
      refine (awake_any _).mono ?_
      rintro e w4 ⟨rfl, HB⟩
      replace HB := Lib.hid (bNext HB1.out HB)
      go_wp2_with fail
      go_ret
      exact ⟨rfl, HB.out⟩
    · replace t1 : ¬ c = 95 := by simpa using t1
      have t3 : (c != 95) = true := by simp; omega
      go_enter Tryd.func4, Tryd.ntmps4
      go_wp2_with fail
      refine (class_any c _).mono ?_
      rintro e w1 ⟨rfl, HB1⟩
      rw [HK.out]
      replace HB1 := Lib.hid HB1
      go_wp2_with fail
      refine (digit_any c 10 _).mono ?_
      rintro e w2 ⟨rfl, rfl⟩
      rw [HD.out]
      generalize (digS c 10).1 = v1
      go_wp2_with fail
      refine (digit_any c 36 _).mono ?_
      rintro e w3 ⟨rfl, rfl⟩
      rw [HE.out]
      generalize (digS c 36).1 = v2
      go_wp2_with fail
      refine (awake_any _).mono ?_
      rintro e w4 ⟨rfl, HB⟩
      replace HB := Lib.hid (bNext HB1.out HB)
      go_wp2_with fail
      go_ret
      exact ⟨rfl, HB.out⟩
    · replace t1 : ¬ c = 95 := by simpa using t1
      have t3 : (c != 95) = true := by simp; omega
      go_enter Tryd.func4, Tryd.ntmps4
      go_wp2_with fail
      refine (class_any c _).mono ?_
      rintro e w1 ⟨rfl, HB1⟩
      rw [HK.out]
      replace HB1 := Lib.hid HB1
      go_wp2_with fail
      refine (digit_any c 10 _).mono ?_
      rintro e w2 ⟨rfl, rfl⟩
      rw [HD.out]
      generalize (digS c 10).1 = v1
      go_wp2_with fail
      refine (digit_any c 36 _).mono ?_
      rintro e w3 ⟨rfl, rfl⟩
      rw [HE.out]
      generalize (digS c 36).1 = v2
      go_wp2_with fail
      refine (awake_any _).mono ?_
      rintro e w4 ⟨rfl, HB⟩
      replace HB := Lib.hid (bNext HB1.out HB)
      go_wp2_with fail
      go_ret
      exact ⟨rfl, HB.out⟩
    · replace t1 : ¬ c = 95 := by simpa using t1
      have t3 : (c != 95) = true := by simp; omega
      go_enter Tryd.func4, Tryd.ntmps4
      go_wp2_with fail
      refine (class_any c _).mono ?_
      rintro e w1 ⟨rfl, HB1⟩
      rw [HK.out]
      replace HB1 := Lib.hid HB1
      go_wp2_with fail
      refine (digit_any c 10 _).mono ?_
      rintro e w2 ⟨rfl, rfl⟩
      rw [HD.out]
      generalize (digS c 10).1 = v1
      go_wp2_with fail
      refine (digit_any c 36 _).mono ?_
      rintro e w3 ⟨rfl, rfl⟩
      rw [HE.out]
      generalize (digS c 36).1 = v2
      go_wp2_with fail
      refine (awake_any _).mono ?_
      rintro e w4 ⟨rfl, HB⟩
      replace HB := Lib.hid (bNext HB1.out HB)
      go_wp2_with fail
      go_ret
      exact ⟨rfl, HB.out⟩
    · replace t1 : ¬ c = 95 := by simpa using t1
      have t3 : (c != 95) = true := by simp; omega
      go_enter Tryd.func4, Tryd.ntmps4
      go_wp2_with fail
      refine (class_any c _).mono ?_
      rintro e w1 ⟨rfl, HB1⟩
      rw [HK.out]
      replace HB1 := Lib.hid HB1
      go_wp2_with fail
      refine (digit_any c 10 _).mono ?_
      rintro e w2 ⟨rfl, rfl⟩
      rw [HD.out]
      generalize (digS c 10).1 = v1
      go_wp2_with fail
      refine (digit_any c 36 _).mono ?_
      rintro e w3 ⟨rfl, rfl⟩
      rw [HE.out]
      generalize (digS c 36).1 = v2
      go_wp2_with fail
      refine (awake_any _).mono ?_
      rintro e w4 ⟨rfl, HB⟩
      replace HB := Lib.hid (bNext HB1.out HB)
      go_wp2_with fail
      go_ret
      exact ⟨rfl, HB.out⟩
end Go.Proofs.YtdhibbphjnoikaaDoor
