/-
  The walk of the example.
-/
import Derived.Test.YtcnbaioecoaopaaDoorAq
import Derived.Test.YtcnbaioecoaopaaDoorAm
import Derived.Outline
namespace Go.Proofs.YtcnbaioecoaopaaDoor
open Go.RowKit
theorem eu : unS ⟨#[45]⟩ 5 = (-5, 0) := by simp [unS, eqS_data, ovf, inR]
theorem eb1 : binS ⟨#[100, 105, 118]⟩ (-7) 2 = (-4, 0) := by simp [binS, eqS_data, half]
theorem eb2 : binS ⟨#[114, 101, 109]⟩ 1 0 = (0, 11) := by simp [binS, eqS_data, rmd]
theorem ep : prs ⟨#[45, 48, 102, 102]⟩ 16 = (-255, 0) := by decide
theorem et : txt (-40) = ⟨#[45, 52, 48]⟩ := by
  have h : Lib.decDigits 40 = [52, 48] := by
    rw [dec_more (by decide), dec_last (by decide)]; rfl
  show (⟨(45 :: Lib.decDigits 40).toArray⟩ : ByteArray) = _
  rw [h]
theorem ek1 : knS ⟨#[103, 99, 100]⟩ 2 = true := by simp [knS, namesS, biN, eqS_data]
theorem ek2 : knS ⟨#[103, 99, 100]⟩ 1 = false := by simp [knS, namesS, unN, eqS_data]
theorem example_any (w : World) (ht : pow10At w) : Calls Tryd.prog 17 #[] w fun e w' => e = .returned (.bool true) ∧ Below w.heap.size w w' := by
  have HT := Lib.hid ht
  clear ht
  go_enter Tryd.func17, Tryd.ntmps17
  go_wp2_with fail
  refine (Unary_any _ 5 (by decide) _).mono ?_
  rintro e w1 ⟨rfl, hb1⟩
  rw [eu, pair]
  have HB1 := Lib.hid hb1
  clear hb1
  go_wp2_with fail
  refine (Binary_any _ (-7) 2 (by decide) (by decide) _).mono ?_
  rintro e w2 ⟨rfl, hb2⟩
  rw [eb1, pair]
  have HB2 := Lib.hid (HB1.out.trans (hb2.mono HB1.out.size))
  clear hb2
  go_wp2_with fail
  refine (Binary_any _ 1 0 (by decide) (by decide) _).mono ?_
  rintro e w3 ⟨rfl, hb3⟩
  rw [eb2, pair]
  have HB3 := Lib.hid (HB2.out.trans (hb3.mono HB2.out.size))
  clear hb3
  go_wp2_with fail
  refine (Parse_any _ 16 (by decide) _).mono ?_
  rintro e w4 ⟨rfl, rfl⟩
  rw [ep, pair]
  go_wp2_with fail
  refine (Text_any (-40) (by decide) _ (HT.out.below HB3.out)).mono ?_
  rintro e w5 ⟨rfl, hb5⟩
  rw [et]
  have HB5 := Lib.hid (HB3.out.trans (hb5.mono HB3.out.size))
  clear hb5
  go_wp2_with fail
  refine (Known_any _ 2 _).mono ?_
  rintro e w6 ⟨rfl, hb6⟩
  rw [ek1]
  have HB6 := Lib.hid (HB5.out.trans (hb6.mono HB5.out.size))
  clear hb6
  go_wp2_with fail
  refine (Known_any _ 1 _).mono ?_
  rintro e w7 ⟨rfl, hb7⟩
  rw [ek2]
  have HB7 := Lib.hid (HB6.out.trans (hb7.mono HB6.out.size))
  clear hb7
  go_wp2_with fail
  go_ret
  exact ⟨rfl, HB7.out⟩
end Go.Proofs.YtcnbaioecoaopaaDoor
