/-
  The walk of awake.
-/
import Derived.Test.YtdhibbphjnoikaaDoorBl
import Derived.Outline
namespace Go.Proofs.YtdhibbphjnoikaaDoor
open Go.RowKit
set_option maxHeartbeats 1000000 in
theorem escape_ten (w : World) : Calls Tryd.prog 21 #[.int .i64 10] w fun e w' => e = .returned (.tuple #[.string ⟨#[92, 110]⟩, .bool true]) ∧ w' = w := by
  go_enter Tryd.func21, Tryd.ntmps21
  go_wp2_with fail
  refine (is_any _ _).mono ?_
  rintro e w1 ⟨rfl, rfl⟩
  rw [show chr 10 = true from rfl]
  go_wp2_with fail
  go_ret2
  exact ⟨rfl, rfl⟩
set_option maxHeartbeats 1000000 in
theorem awake_any (w : World) : Calls Tryd.prog 10 #[] w fun e w' => e = .returned (.bool true) ∧ Below w.heap.size w w' := by
  go_enter Tryd.func10, Tryd.ntmps10
  go_wp2_with fail
  refine (escape_ten _).mono ?_
  rintro e w1 ⟨rfl, rfl⟩
  go_wp2_with fail
  refine (digit_any _ _ _).mono ?_
  rintro e w2 ⟨rfl, rfl⟩
  rw [show digS 70 16 = (15, true) from rfl]
  go_wp2_with fail
  refine (set_ok none 0 0 [] 97 98 _ (by decide) (PairsAt.nil _ _ _) (fun _ => rfl) (by decide) rfl rfl rfl).mono ?_
  rintro e w3 ⟨⟨v, rfl, HV⟩, HB⟩
  obtain ⟨A, c, rfl, HP, hnil, hlc⟩ := HV
  rw [show setT [] 97 98 = [(97, 98)] by decide +kernel] at HP hlc ⊢
  have HP := Lib.hid HP
  have HB := Lib.hid HB
  clear hnil hlc
  go_wp2_with fail
  refine (class_any _ _).mono ?_
  rintro e w4 ⟨rfl, HB2⟩
  rw [show clsP 95 = 3 by decide +kernel]
  have HP2 := Lib.hid ((HP.out.below HB2).more HB2.size)
  replace HB2 := Lib.hid (bNext HB.out HB2)
  go_wp2_with fail
  refine (convert_any _ _ _ _ _ _ HP2.out).mono ?_
  rintro e w5 ⟨rfl, HB3⟩
  rw [show cv [(97, 98)] 97 = 98 by decide +kernel]
  replace HB3 := Lib.hid (bNext HB2.out HB3)
  go_wp2_with fail
  go_ret
  exact ⟨rfl, HB3.out⟩
end Go.Proofs.YtdhibbphjnoikaaDoor
