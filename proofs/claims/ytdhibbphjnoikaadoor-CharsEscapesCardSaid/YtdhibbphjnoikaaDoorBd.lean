/-
  The walk of the reference's Valid.
-/
import Derived.Test.YtdhibbphjnoikaaDoorBc
namespace Go.Proofs.YtdhibbphjnoikaaDoor
open Go.RowKit
set_option maxHeartbeats 1000000 in
theorem rvalid_any (A : Option Addr) (n cap : Nat) (l : Tab) (w : World) (h : PairsAt w w.heap.size A n l) : Calls Tryd.prog 16 #[.slice A n cap] w fun e w' => e = .returned (.bool (vld l)) ∧ Below w.heap.size w w' := by
  have hn := h.1.2
  have hl := h.len
  have HA := Lib.hid h
  clear h
  go_enter Tryd.func16, Tryd.ntmps16
  go_wp2_with fail
  go_loopw [3] (fun i wr => ∃ k : Nat, k ≤ n ∧ i = .int .i64 (k : Int) ∧ Hid (∀ j, j < k → okAt l j = true) ∧ Hid (Below w.heap.size w wr)) (fun i _ => n - (intOf i).toNat)
  case atStart => exact ⟨0, by omega, rfl, Lib.hid fun _ h => absurd h (by omega), Lib.hid (Below.refl _ _)⟩
  case round =>
    obtain ⟨k, hk, rfl, HP, HW⟩ := hrel
    by_cases hlt : k < n
    · obtain ⟨b, off, rfl, hB, hc⟩ := (HA.out.below HW.out).at hlt
      obtain ⟨c0, c1⟩ := hc
      have zb : b < wr.heap.size := by have := HW.out.size; omega
      generalize hx : l.getD k (0, 0) = x at *
      have HX := Lib.hid hx
      clear hx
      cases h1 : chr x.1
      · have HF := Lib.hid (vld_bad (l := l) (i := k) (by omega) (ok_chr1 HX.out h1))
        go_wp2_with fail
        go_quiet ((exact Calls.quiet_of_same (ris_q _ _)))
        go_wp2_with fail
        go_ret
        exact ⟨ret_bool HF.out.symm, bDrewN HW.out _⟩
      cases h2 : chr x.2
      · have HF := Lib.hid (vld_bad (l := l) (i := k) (by omega) (ok_chr2 HX.out h2))
        go_wp2_with fail
        go_quiet ((exact Calls.quiet_of_same (ris_q _ _)))
        go_wp2_with fail
        go_ret
        exact ⟨ret_bool HF.out.symm, bDrewN HW.out _⟩
      cases h3 : x.1 == x.2
      rotate_left
      · have HF := Lib.hid (vld_bad (l := l) (i := k) (by omega) (ok_eq HX.out h3))
        go_wp2_with fail
        go_quiet ((exact Calls.quiet_of_same (ris_q _ _)))
        go_wp2_with fail
        go_ret
        exact ⟨ret_bool HF.out.symm, bDrewN HW.out _⟩
      by_cases h4 : k = 0
      · subst h4
        have HF := Lib.hid (ok_yes0 HX.out h1 h2 h3)
        simp only [Nat.zero_mul, Nat.add_zero] at c0 c1
        go_wp2_with fail
        go_quiet ((exact Calls.quiet_of_same (ris_q _ _)))
        go_wp2_with fail
        exact ⟨⟨1, by omega, rfl, Lib.hid fun j hj => by (obtain rfl : j = 0 := by omega); exact HF.out, Lib.hid (bDrewN HW.out _)⟩, by simp [intOf]; omega⟩
      · obtain ⟨m, rfl⟩ : ∃ m, k = m + 1 := ⟨k - 1, by omega⟩
        obtain ⟨b', off', eb, -, hc'⟩ := (HA.out.below HW.out).at (show m < n by omega)
        obtain ⟨d0, d1⟩ := hc'
        injection eb with eb
        injection eb with eb1 eb2
        subst eb1 eb2
        generalize hy : l.getD m (0, 0) = y at *
        have HY := Lib.hid hy
        clear hy h4
        cases h5 : decide (x.1 ≤ y.1)
        · have HF := Lib.hid (ok_yes HX.out HY.out h1 h2 h3 h5)
          go_wp2_with fail
          go_quiet ((exact Calls.quiet_of_same (ris_q _ _)))
          go_wp2_with fail
          exact ⟨⟨m + 2, by omega, by go_num, Lib.hid fun j hj => by
            rcases Nat.lt_or_ge j (m + 1) with h | h
            · exact HP.out j h
            · (obtain rfl : j = m + 1 := by omega); exact HF.out, Lib.hid (bDrewN HW.out _)⟩, by simp [intOf]; omega⟩
        · have HF := Lib.hid (vld_bad (l := l) (i := m + 1) (by omega) (ok_prev HX.out HY.out h5))
          go_wp2_with fail
          go_quiet ((exact Calls.quiet_of_same (ris_q _ _)))
          go_wp2_with fail
          go_ret
          exact ⟨ret_bool HF.out.symm, bDrewN HW.out _⟩
    · have HF := Lib.hid (show vld l = true by rw [vld_iff]; exact fun i hi => HP.out i (by omega))
      go_wp2_with fail
      go_ret
      exact ⟨ret_bool HF.out.symm, HW.out⟩
end Go.Proofs.YtdhibbphjnoikaaDoor
