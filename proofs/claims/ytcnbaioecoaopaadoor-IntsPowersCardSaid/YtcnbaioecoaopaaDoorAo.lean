/-
  The walks of digit, both.
-/
import Derived.Test.YtcnbaioecoaopaaDoorAn
namespace Go.Proofs.YtcnbaioecoaopaaDoor
open Go.RowKit
/-- the value of a digit; top, if there is none -/
def dgt (top : Int) (c : Int) : Int := if 48 ≤ c ∧ c ≤ 57 then c - 48 else if 97 ≤ c ∧ c ≤ 122 then c - 87 else if 65 ≤ c ∧ c ≤ 90 then c - 55 else top
theorem digit_any (c : Int) (h0 : 0 ≤ c) (h1 : c ≤ 255) (w : World) : Calls Tryd.prog 39 #[.int .u8 c] w fun e w' => e = .returned (.int .i64 (dgt 36 c)) ∧ w = w' := by
  have key : ∀ v : Int, (48 ≤ c ∧ c ≤ 57 → v = c - 48) → (97 ≤ c ∧ c ≤ 122 → v = c - 87) → (65 ≤ c ∧ c ≤ 90 → v = c - 55) → (¬ (48 ≤ c ∧ c ≤ 57) → ¬ (97 ≤ c ∧ c ≤ 122) → ¬ (65 ≤ c ∧ c ≤ 90) → v = 36) → v = dgt 36 c := fun v a b d e => by
    unfold dgt
    split
    · exact a ‹_›
    · split
      · exact b ‹_›
      · split
        · exact d ‹_›
        · exact e ‹_› ‹_› ‹_›
  have HK := Lib.hid key
  clear key
  by_cases q0 : c < 48
  · go_enter Tryd.func39, Tryd.ntmps39
    go_wp2
    all_goals go_ret
    all_goals exact ⟨ret_i64 (HK.out _ (by first | omega | (simp [IntKind.wrap, IntKind.signed, IntKind.bits] <;> omega)) (by first | omega | (simp [IntKind.wrap, IntKind.signed, IntKind.bits] <;> omega)) (by first | omega | (simp [IntKind.wrap, IntKind.signed, IntKind.bits] <;> omega)) (by first | omega | (simp [IntKind.wrap, IntKind.signed, IntKind.bits] <;> omega))), rfl⟩
  by_cases q1 : c ≤ 57
  · go_enter Tryd.func39, Tryd.ntmps39
    go_wp2
    all_goals go_ret
    all_goals exact ⟨ret_i64 (HK.out _ (by first | omega | (simp [IntKind.wrap, IntKind.signed, IntKind.bits] <;> omega)) (by first | omega | (simp [IntKind.wrap, IntKind.signed, IntKind.bits] <;> omega)) (by first | omega | (simp [IntKind.wrap, IntKind.signed, IntKind.bits] <;> omega)) (by first | omega | (simp [IntKind.wrap, IntKind.signed, IntKind.bits] <;> omega))), rfl⟩
  by_cases q2 : c < 65
  · go_enter Tryd.func39, Tryd.ntmps39
    go_wp2
    all_goals go_ret
    all_goals exact ⟨ret_i64 (HK.out _ (by first | omega | (simp [IntKind.wrap, IntKind.signed, IntKind.bits] <;> omega)) (by first | omega | (simp [IntKind.wrap, IntKind.signed, IntKind.bits] <;> omega)) (by first | omega | (simp [IntKind.wrap, IntKind.signed, IntKind.bits] <;> omega)) (by first | omega | (simp [IntKind.wrap, IntKind.signed, IntKind.bits] <;> omega))), rfl⟩
  by_cases q3 : c ≤ 90
  · go_enter Tryd.func39, Tryd.ntmps39
    go_wp2
    all_goals go_ret
    all_goals exact ⟨ret_i64 (HK.out _ (by first | omega | (simp [IntKind.wrap, IntKind.signed, IntKind.bits] <;> omega)) (by first | omega | (simp [IntKind.wrap, IntKind.signed, IntKind.bits] <;> omega)) (by first | omega | (simp [IntKind.wrap, IntKind.signed, IntKind.bits] <;> omega)) (by first | omega | (simp [IntKind.wrap, IntKind.signed, IntKind.bits] <;> omega))), rfl⟩
  by_cases q4 : c < 97
  · go_enter Tryd.func39, Tryd.ntmps39
    go_wp2
    all_goals go_ret
    all_goals exact ⟨ret_i64 (HK.out _ (by first | omega | (simp [IntKind.wrap, IntKind.signed, IntKind.bits] <;> omega)) (by first | omega | (simp [IntKind.wrap, IntKind.signed, IntKind.bits] <;> omega)) (by first | omega | (simp [IntKind.wrap, IntKind.signed, IntKind.bits] <;> omega)) (by first | omega | (simp [IntKind.wrap, IntKind.signed, IntKind.bits] <;> omega))), rfl⟩
  by_cases q5 : c ≤ 122
  · go_enter Tryd.func39, Tryd.ntmps39
    go_wp2
    all_goals go_ret
    all_goals exact ⟨ret_i64 (HK.out _ (by first | omega | (simp [IntKind.wrap, IntKind.signed, IntKind.bits] <;> omega)) (by first | omega | (simp [IntKind.wrap, IntKind.signed, IntKind.bits] <;> omega)) (by first | omega | (simp [IntKind.wrap, IntKind.signed, IntKind.bits] <;> omega)) (by first | omega | (simp [IntKind.wrap, IntKind.signed, IntKind.bits] <;> omega))), rfl⟩
  go_enter Tryd.func39, Tryd.ntmps39
  go_wp2
  all_goals go_ret
  all_goals exact ⟨ret_i64 (HK.out _ (by first | omega | (simp [IntKind.wrap, IntKind.signed, IntKind.bits] <;> omega)) (by first | omega | (simp [IntKind.wrap, IntKind.signed, IntKind.bits] <;> omega)) (by first | omega | (simp [IntKind.wrap, IntKind.signed, IntKind.bits] <;> omega)) (by first | omega | (simp [IntKind.wrap, IntKind.signed, IntKind.bits] <;> omega))), rfl⟩
theorem rdigit_any (c : Int) (h0 : 0 ≤ c) (h1 : c ≤ 255) (w : World) : Calls Tryd.prog 40 #[.int .u8 c] w fun e w' => e = .returned (.int .i64 (dgt 99 c)) ∧ w = w' := by
  have key : ∀ v : Int, (48 ≤ c ∧ c ≤ 57 → v = c - 48) → (97 ≤ c ∧ c ≤ 122 → v = c - 87) → (65 ≤ c ∧ c ≤ 90 → v = c - 55) → (¬ (48 ≤ c ∧ c ≤ 57) → ¬ (97 ≤ c ∧ c ≤ 122) → ¬ (65 ≤ c ∧ c ≤ 90) → v = 99) → v = dgt 99 c := fun v a b d e => by
    unfold dgt
    split
    · exact a ‹_›
    · split
      · exact b ‹_›
      · split
        · exact d ‹_›
        · exact e ‹_› ‹_› ‹_›
  have HK := Lib.hid key
  clear key
  by_cases q0 : c < 48
  · go_enter Tryd.func40, Tryd.ntmps40
    go_wp2
    all_goals go_ret
    all_goals exact ⟨ret_i64 (HK.out _ (by first | omega | (simp [IntKind.wrap, IntKind.signed, IntKind.bits] <;> omega)) (by first | omega | (simp [IntKind.wrap, IntKind.signed, IntKind.bits] <;> omega)) (by first | omega | (simp [IntKind.wrap, IntKind.signed, IntKind.bits] <;> omega)) (by first | omega | (simp [IntKind.wrap, IntKind.signed, IntKind.bits] <;> omega))), rfl⟩
  by_cases q1 : c ≤ 57
  · go_enter Tryd.func40, Tryd.ntmps40
    go_wp2
    all_goals go_ret
    all_goals exact ⟨ret_i64 (HK.out _ (by first | omega | (simp [IntKind.wrap, IntKind.signed, IntKind.bits] <;> omega)) (by first | omega | (simp [IntKind.wrap, IntKind.signed, IntKind.bits] <;> omega)) (by first | omega | (simp [IntKind.wrap, IntKind.signed, IntKind.bits] <;> omega)) (by first | omega | (simp [IntKind.wrap, IntKind.signed, IntKind.bits] <;> omega))), rfl⟩
  by_cases q2 : c < 65
  · go_enter Tryd.func40, Tryd.ntmps40
    go_wp2
    all_goals go_ret
    all_goals exact ⟨ret_i64 (HK.out _ (by first | omega | (simp [IntKind.wrap, IntKind.signed, IntKind.bits] <;> omega)) (by first | omega | (simp [IntKind.wrap, IntKind.signed, IntKind.bits] <;> omega)) (by first | omega | (simp [IntKind.wrap, IntKind.signed, IntKind.bits] <;> omega)) (by first | omega | (simp [IntKind.wrap, IntKind.signed, IntKind.bits] <;> omega))), rfl⟩
  by_cases q3 : c ≤ 90
  · go_enter Tryd.func40, Tryd.ntmps40
    go_wp2
    all_goals go_ret
    all_goals exact ⟨ret_i64 (HK.out _ (by first | omega | (simp [IntKind.wrap, IntKind.signed, IntKind.bits] <;> omega)) (by first | omega | (simp [IntKind.wrap, IntKind.signed, IntKind.bits] <;> omega)) (by first | omega | (simp [IntKind.wrap, IntKind.signed, IntKind.bits] <;> omega)) (by first | omega | (simp [IntKind.wrap, IntKind.signed, IntKind.bits] <;> omega))), rfl⟩
  by_cases q4 : c < 97
  · go_enter Tryd.func40, Tryd.ntmps40
    go_wp2
    all_goals go_ret
    all_goals exact ⟨ret_i64 (HK.out _ (by first | omega | (simp [IntKind.wrap, IntKind.signed, IntKind.bits] <;> omega)) (by first | omega | (simp [IntKind.wrap, IntKind.signed, IntKind.bits] <;> omega)) (by first | omega | (simp [IntKind.wrap, IntKind.signed, IntKind.bits] <;> omega)) (by first | omega | (simp [IntKind.wrap, IntKind.signed, IntKind.bits] <;> omega))), rfl⟩
  by_cases q5 : c ≤ 122
  · go_enter Tryd.func40, Tryd.ntmps40
    go_wp2
    all_goals go_ret
    all_goals exact ⟨ret_i64 (HK.out _ (by first | omega | (simp [IntKind.wrap, IntKind.signed, IntKind.bits] <;> omega)) (by first | omega | (simp [IntKind.wrap, IntKind.signed, IntKind.bits] <;> omega)) (by first | omega | (simp [IntKind.wrap, IntKind.signed, IntKind.bits] <;> omega)) (by first | omega | (simp [IntKind.wrap, IntKind.signed, IntKind.bits] <;> omega))), rfl⟩
  go_enter Tryd.func40, Tryd.ntmps40
  go_wp2
  all_goals go_ret
  all_goals exact ⟨ret_i64 (HK.out _ (by first | omega | (simp [IntKind.wrap, IntKind.signed, IntKind.bits] <;> omega)) (by first | omega | (simp [IntKind.wrap, IntKind.signed, IntKind.bits] <;> omega)) (by first | omega | (simp [IntKind.wrap, IntKind.signed, IntKind.bits] <;> omega)) (by first | omega | (simp [IntKind.wrap, IntKind.signed, IntKind.bits] <;> omega))), rfl⟩
end Go.Proofs.YtcnbaioecoaopaaDoor
