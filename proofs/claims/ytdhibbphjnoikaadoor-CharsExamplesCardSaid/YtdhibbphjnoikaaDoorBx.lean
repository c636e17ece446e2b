/-
  The walk of the law CharsExamples.
-/
import Derived.Test.YtdhibbphjnoikaaDoorBv
import Derived.Test.YtdhibbphjnoikaaDoorBo
import Derived.Outline
namespace Go.Proofs.YtdhibbphjnoikaaDoor
open Go.RowKit
theorem one_pair (w : World) (t : TypeId) : PairsAt (w.alloc (.cells #[.int .i64 97, .int .i64 98] t)) (w.alloc (.cells #[.int .i64 97, .int .i64 98] t)).heap.size (some ⟨w.heap.size, 0, none⟩) 1 [(97, 98)] :=
  ⟨⟨rfl, by omega⟩, fun _ => ⟨_, 0, rfl, by simp, fun i x hx => by
    have hi : i < 1 := (List.getElem?_eq_some_iff.1 hx).1
    obtain rfl : i = 0 := by omega
    simp only [List.getElem?_cons_zero, Option.some.injEq] at hx
    subst hx
    constructor <;> simp⟩⟩
set_option maxHeartbeats 4000000 in
theorem law_examples (w : World) (h : dbAt w) : Calls Tryd.prog 7 #[] w fun e w' => e = .returned (.bool true) ∧ Below w.heap.size w w' := by
  have HD := Lib.hid h
  clear h
  go_enter Tryd.func7, Tryd.ntmps7
  go_wp2_with fail
  refine (awake_any _).mono ?_
  rintro e w1 ⟨rfl, HB⟩
  replace HB := Lib.hid HB
  go_wp2_with fail
  refine (class_any _ _).mono ?_
  rintro e w1 ⟨rfl, HB1⟩
  rw [show clsP 32 = 1 by decide +kernel]
  replace HB := Lib.hid (bNext HB.out HB1)
  clear HB1
  go_wp2_with fail
  refine (class_any _ _).mono ?_
  rintro e w1 ⟨rfl, HB1⟩
  rw [show clsP 37 = 6 by decide +kernel]
  replace HB := Lib.hid (bNext HB.out HB1)
  clear HB1
  go_wp2_with fail
  refine (class_any _ _).mono ?_
  rintro e w1 ⟨rfl, HB1⟩
  rw [show clsP 200 = 8 by decide +kernel]
  replace HB := Lib.hid (bNext HB.out HB1)
  clear HB1
  go_wp2_with fail
  refine (class_any _ _).mono ?_
  rintro e w1 ⟨rfl, HB1⟩
  rw [show clsP 256 = 0 by decide +kernel]
  replace HB := Lib.hid (bNext HB.out HB1)
  clear HB1
  go_wp2_with fail
  refine (digit_any _ _ _).mono ?_
  rintro e w1 ⟨rfl, rfl⟩
  rw [show digS 102 16 = (15, true) by decide +kernel]
  go_wp2_with fail
  refine (digit_any _ _ _).mono ?_
  rintro e w1 ⟨rfl, rfl⟩
  rw [show digS 56 8 = (0, false) by decide +kernel]
  go_wp2_with fail
  refine (digit_any _ _ _).mono ?_
  rintro e w1 ⟨rfl, rfl⟩
  rw [show digS 122 36 = (35, true) by decide +kernel]
  go_wp2_with fail
  refine (escape_any _ _ (HD.out.below HB.out)).mono ?_
  rintro e w1 ⟨rfl, HB1⟩
  rw [show esc 39 = (⟨#[92, 39]⟩, true) by decide +kernel]
  replace HB := Lib.hid (bNext HB.out HB1)
  clear HB1
  go_wp2_with fail
  refine (escape_any _ _ (HD.out.below HB.out)).mono ?_
  rintro e w1 ⟨rfl, HB1⟩
  rw [show esc 34 = (⟨#[34]⟩, true) by decide +kernel]
  replace HB := Lib.hid (bNext HB.out HB1)
  clear HB1
  go_wp2_with fail
  refine (escape_any _ _ (HD.out.below HB.out)).mono ?_
  rintro e w1 ⟨rfl, HB1⟩
  rw [show esc 127 = (⟨#[92, 120, 55, 102, 92]⟩, true) by decide +kernel]
  replace HB := Lib.hid (bNext HB.out HB1)
  clear HB1
  go_wp2_with fail
  refine (unescape_any _ _).mono ?_
  rintro e w1 ⟨rfl, rfl⟩
  rw [show unE 110 = (10, true) by decide +kernel]
  go_wp2_with fail
  refine (unescape_any _ _).mono ?_
  rintro e w1 ⟨rfl, rfl⟩
  rw [show unE 101 = (0, false) by decide +kernel]
  go_wp2_with fail
  have HP := Lib.hid (one_pair w1 41)
  replace HB := Lib.hid (bNext HB.out (bAlloc w1 (.cells #[.int .i64 97, .int .i64 98] 41)))
  refine (set_ok _ 1 1 [(97, 98)] 97 97 _ (by decide) HP.out (fun h => by cases h) (by decide) (by decide +kernel) rfl rfl).mono ?_
  rintro e w2 ⟨⟨v, rfl, HV⟩, HB1⟩
  obtain ⟨A2, c2, rfl, -, -, -⟩ := HV
  rw [show setT [(97, 98)] 97 97 = [] by decide +kernel]
  replace HP := Lib.hid (HP.out.up HB1)
  replace HB := Lib.hid (bNext HB.out HB1)
  clear HB1
  go_wp2_with fail
  refine (set_bad none 0 0 [] 256 1 _ (PairsAt.nil _ _ _) rfl).mono ?_
  rintro e w3 ⟨rfl, HB1⟩
  replace HP := Lib.hid (HP.out.up HB1)
  replace HB := Lib.hid (bNext HB.out HB1)
  clear HB1
  go_wp2_with fail
  refine (convert_any _ 1 1 [(97, 98)] 98 _ HP.out).mono ?_
  rintro e w4 ⟨rfl, HB1⟩
  rw [show cv [(97, 98)] 98 = 98 by decide +kernel]
  replace HB := Lib.hid (bNext HB.out HB1)
  clear HB1
  go_wp2_with fail
  go_ret
  exact ⟨rfl, HB.out⟩
end Go.Proofs.YtdhibbphjnoikaaDoor
