/-
  The walks of the small functions: is, Compare, the comparison of a pair.
-/
import Derived.Test.YtdhibbphjnoikaaDoorRows
import Derived.Test.YtdhibbphjnoikaaDoorBb
import Derived.Deep.QuietTactic
import Derived.BigQuiet
import Derived.Outline
namespace Go.Proofs.YtdhibbphjnoikaaDoor
open Go.RowKit
theorem ret_i64 {a b : Int} (h : a = b) : Ending.returned (.int .i64 a) = .returned (.int .i64 b) := by rw [h]
theorem ret_bool {a b : Bool} (h : a = b) : Ending.returned (.bool a) = .returned (.bool b) := by rw [h]
theorem ret_two {a b : Int} {c d : Bool} (h : a = b) (h2 : c = d) : Ending.returned (.tuple #[.int .i64 a, .bool c]) = .returned (.tuple #[.int .i64 b, .bool d]) := by rw [h, h2]
theorem is_any (c : Int) (w : World) : Calls Tryd.prog 27 #[.int .i64 c] w fun e w' => e = .returned (.bool (chr c)) ∧ w = w' := by
  by_cases h0 : c < 0
  · have HE := Lib.hid (show chr c = false by rw [chr_no]; omega)
    go_enter Tryd.func27, Tryd.ntmps27
    go_wp2
    go_ret
    exact ⟨ret_bool HE.out.symm, rfl⟩
  · by_cases h1 : c ≤ 255
    · have HE := Lib.hid (show chr c = true by rw [chr_iff]; omega)
      go_enter Tryd.func27, Tryd.ntmps27
      go_wp2
      go_ret
      exact ⟨ret_bool HE.out.symm, rfl⟩
    · have HE := Lib.hid (show chr c = false by rw [chr_no]; omega)
      go_enter Tryd.func27, Tryd.ntmps27
      go_wp2
      go_ret
      exact ⟨ret_bool HE.out.symm, rfl⟩
theorem ris_any (c : Int) (w : World) : Calls Tryd.prog 30 #[.int .i64 c] w fun e w' => e = .returned (.bool (chr c)) ∧ w = w' := by
  by_cases h0 : c < 0
  · have HE := Lib.hid (show chr c = false by rw [chr_no]; omega)
    go_enter Tryd.func30, Tryd.ntmps30
    go_wp2
    go_ret
    exact ⟨ret_bool HE.out.symm, rfl⟩
  · by_cases h1 : c ≤ 255
    · have HE := Lib.hid (show chr c = true by rw [chr_iff]; omega)
      go_enter Tryd.func30, Tryd.ntmps30
      go_wp2
      go_ret
      exact ⟨ret_bool HE.out.symm, rfl⟩
    · have HE := Lib.hid (show chr c = false by rw [chr_no]; omega)
      go_enter Tryd.func30, Tryd.ntmps30
      go_wp2
      go_ret
      exact ⟨ret_bool HE.out.symm, rfl⟩
def cmpI (a b : Int) : Int := if a < b then -1 else if b < a then 1 else 0
theorem cmp_any (a b : Int) (w : World) : Calls Tryd.prog 38 #[.int .i64 a, .int .i64 b] w fun e w' => e = .returned (.int .i64 (cmpI a b)) ∧ w = w' := by
  go_enter Tryd.func38, Tryd.ntmps38
  go_wp2
  all_goals go_ret
  all_goals exact ⟨ret_i64 (by unfold cmpI; split <;> (try split) <;> omega), rfl⟩
theorem find1_any (x : Int × Int) (c : Int) (w : World) : Calls Tryd.prog 37 #[.agg #[.int .i64 x.1, .int .i64 x.2], .int .i64 c] w fun e w' => e = .returned (.int .i64 (cmpI x.1 c)) ∧ Below w.heap.size w w' := by
  go_enter Tryd.func37, Tryd.ntmps37
  go_wp2_with fail
  refine (cmp_any _ _ _).mono ?_
  rintro e w1 ⟨rfl, rfl⟩
  go_wp2_with fail
  go_ret
  exact ⟨rfl, bAlloc _ _⟩
theorem is_q (c : Int) (w : World) : Calls Tryd.prog 27 #[.int .i64 c] w fun e w' => e = .returned (.bool (chr c)) ∧ w' = w := (is_any c w).mono fun _ _ h => ⟨h.1, h.2.symm⟩
theorem ris_q (c : Int) (w : World) : Calls Tryd.prog 30 #[.int .i64 c] w fun e w' => e = .returned (.bool (chr c)) ∧ w' = w := (ris_any c w).mono fun _ _ h => ⟨h.1, h.2.symm⟩
theorem ok_chr1 {l : Tab} {k : Nat} {x : Int × Int} (hx : l.getD k (0, 0) = x) (h : chr x.1 = false) : okAt l k = false := by unfold okAt; rw [hx, h]; rfl
theorem ok_chr2 {l : Tab} {k : Nat} {x : Int × Int} (hx : l.getD k (0, 0) = x) (h : chr x.2 = false) : okAt l k = false := by unfold okAt; rw [hx, h, Bool.and_false]; rfl
theorem ok_eq {l : Tab} {k : Nat} {x : Int × Int} (hx : l.getD k (0, 0) = x) (h : (x.1 == x.2) = true) : okAt l k = false := by unfold okAt; rw [hx, h]; simp
theorem ok_prev {l : Tab} {m : Nat} {x y : Int × Int} (hx : l.getD (m + 1) (0, 0) = x) (hy : l.getD m (0, 0) = y) (h : decide (x.1 ≤ y.1) = true) : okAt l (m + 1) = false := by
  unfold okAt; rw [hx, show m + 1 - 1 = m from rfl, hy]
  have : decide (y.1 < x.1) = false := by simp at h ⊢; omega
  rw [this]; simp
theorem ok_yes0 {l : Tab} {x : Int × Int} (hx : l.getD 0 (0, 0) = x) (h1 : chr x.1 = true) (h2 : chr x.2 = true) (h3 : (x.1 == x.2) = false) : okAt l 0 = true := by unfold okAt; rw [hx, h1, h2, h3]; rfl
theorem ok_yes {l : Tab} {m : Nat} {x y : Int × Int} (hx : l.getD (m + 1) (0, 0) = x) (hy : l.getD m (0, 0) = y) (h1 : chr x.1 = true) (h2 : chr x.2 = true) (h3 : (x.1 == x.2) = false) (h : decide (x.1 ≤ y.1) = false) : okAt l (m + 1) = true := by
  unfold okAt; rw [hx, show m + 1 - 1 = m from rfl, hy, h1, h2, h3]
  have : decide (y.1 < x.1) = true := by simp at h ⊢; omega
  rw [this]; simp
set_option maxHeartbeats 1000000 in
theorem valid_any (A : Option Addr) (n cap : Nat) (l : Tab) (w : World) (h : PairsAt w w.heap.size A n l) : Calls Tryd.prog 12 #[.slice A n cap] w fun e w' => e = .returned (.bool (vld l)) ∧ Below w.heap.size w w' := by
  have hn := h.1.2
  have hl := h.len
  have HA := Lib.hid h
  clear h
  go_enter Tryd.func12, Tryd.ntmps12
  go_wp2_with fail
  go_loopw [7] (fun i wr => ∃ k : Nat, k ≤ n ∧ i = .int .i64 (k : Int) ∧ Hid (∀ j, j < k → okAt l j = true) ∧ Hid (Below w.heap.size w wr)) (fun i _ => n - (intOf i).toNat)
  case atStart => exact ⟨0, by omega, rfl, Lib.hid fun _ h => absurd h (by omega), Lib.hid (Below.refl _ _)⟩
  case round =>
    obtain ⟨k, hk, rfl, HP, HW⟩ := hrel
    by_cases hlt : k < n
    · obtain ⟨b, off, rfl, hB, hc⟩ := (HA.out.below HW.out).at hlt
      obtain ⟨c0, c1⟩ := hc
      have zb : b < wr.heap.size := by have := HW.out.size; omega
      generalize hx : l.getD k (0, 0) = x at *
      have HX := Lib.hid hx
      clear hx
      cases h1 : chr x.1
      · have HF := Lib.hid (vld_bad (l := l) (i := k) (by omega) (ok_chr1 HX.out h1))
        go_wp2_with fail
        go_quiet ((exact Calls.quiet_of_same (is_q _ _)))
        go_wp2_with fail
        go_ret
        exact ⟨ret_bool HF.out.symm, bDrewN (HW.out.alloc HW.out.size _) _⟩
      cases h2 : chr x.2
      · have HF := Lib.hid (vld_bad (l := l) (i := k) (by omega) (ok_chr2 HX.out h2))
        go_wp2_with fail
        go_quiet ((exact Calls.quiet_of_same (is_q _ _)))
        go_wp2_with fail
        go_ret
        exact ⟨ret_bool HF.out.symm, bDrewN (HW.out.alloc HW.out.size _) _⟩
      cases h3 : x.1 == x.2
      rotate_left
      · have HF := Lib.hid (vld_bad (l := l) (i := k) (by omega) (ok_eq HX.out h3))
        go_wp2_with fail
        go_quiet ((exact Calls.quiet_of_same (is_q _ _)))
        go_wp2_with fail
        go_ret
        exact ⟨ret_bool HF.out.symm, bDrewN (HW.out.alloc HW.out.size _) _⟩
      by_cases h4 : k = 0
      · subst h4
        have HF := Lib.hid (ok_yes0 HX.out h1 h2 h3)
        simp only [Nat.zero_mul, Nat.add_zero] at c0 c1
        go_wp2_with fail
        go_quiet ((exact Calls.quiet_of_same (is_q _ _)))
        go_wp2_with fail
        exact ⟨⟨1, by omega, rfl, Lib.hid fun j hj => by (obtain rfl : j = 0 := by omega); exact HF.out, Lib.hid (bDrewN (HW.out.alloc HW.out.size _) _)⟩, by simp [intOf]; omega⟩
      · obtain ⟨m, rfl⟩ : ∃ m, k = m + 1 := ⟨k - 1, by omega⟩
        obtain ⟨b', off', eb, -, hc'⟩ := (HA.out.below HW.out).at (show m < n by omega)
        obtain ⟨d0, d1⟩ := hc'
        injection eb with eb
        injection eb with eb1 eb2
        subst eb1 eb2
        generalize hy : l.getD m (0, 0) = y at *
        have HY := Lib.hid hy
        clear hy h4
        cases h5 : decide (x.1 ≤ y.1)
        · have HF := Lib.hid (ok_yes HX.out HY.out h1 h2 h3 h5)
          go_wp2_with fail
          go_quiet ((exact Calls.quiet_of_same (is_q _ _)))
          go_wp2_with fail
          exact ⟨⟨m + 2, by omega, by go_num, Lib.hid fun j hj => by
            rcases Nat.lt_or_ge j (m + 1) with h | h
            · exact HP.out j h
            · (obtain rfl : j = m + 1 := by omega); exact HF.out, Lib.hid (bDrewN (HW.out.alloc HW.out.size _) _)⟩, by simp [intOf]; omega⟩
        · have HF := Lib.hid (vld_bad (l := l) (i := m + 1) (by omega) (ok_prev HX.out HY.out h5))
          go_wp2_with fail
          go_quiet ((exact Calls.quiet_of_same (is_q _ _)))
          go_wp2_with fail
          go_ret
          exact ⟨ret_bool HF.out.symm, bDrewN (HW.out.alloc HW.out.size _) _⟩
    · have HF := Lib.hid (show vld l = true by rw [vld_iff]; exact fun i hi => HP.out i (by omega))
      go_wp2_with fail
      go_ret
      exact ⟨ret_bool HF.out.symm, HW.out⟩
end Go.Proofs.YtdhibbphjnoikaaDoor
