/-
  Walks: tests on registers, names, predicates, both.
-/
import Derived.Test.YteffpeokialeiaaAd
namespace Go.Proofs.Yteffpeokialeiaa
open Go.RowKit

theorem regA_any (r : Int) (w : World) : Calls Try.prog 52 #[.int .i64 r, .bool true] w fun e w' => e = .returned (.bool (aOk r)) ∧ w = w' := by
  go_enter Try.func52, Try.ntmps52
  go_wp2
  all_goals go_ret
  all_goals refine ⟨ret_bool ?_, rfl⟩
  all_goals first | (simp [aOk, *]; done) | (simp [aOk, *]; omega)
theorem regR_any (r : Int) (w : World) : Calls Try.prog 52 #[.int .i64 r, .bool false] w fun e w' => e = .returned (.bool (rOk r)) ∧ w = w' := by
  go_enter Try.func52, Try.ntmps52
  go_wp2
  all_goals go_ret
  all_goals refine ⟨ret_bool ?_, rfl⟩
  all_goals first | (simp [rOk, *]; done) | (simp [rOk, *]; omega) | (rw [Bool.eq_iff_iff]; simp [rOk]; omega)
theorem between_any (n a b : Int) (w : World) : Calls Try.prog 58 #[.int .i64 n, .int .i64 a, .int .i64 b] w fun e w' => e = .returned (.bool (decide (a ≤ n) && decide (n ≤ b))) ∧ w = w' := by
  go_enter Try.func58, Try.ntmps58
  go_wp2
  all_goals go_ret
  all_goals refine ⟨ret_bool ?_, rfl⟩
  all_goals first | (simp [*]; done) | (simp [*]; omega)
theorem named_any (s : ByteArray) (w : World) : Calls Try.prog 59 #[.string s] w fun e w' => e = .returned (.bool (nmOk s)) ∧ w = w' := by
  go_enter Try.func59, Try.ntmps59
  go_wp2
  all_goals go_ret
  all_goals refine ⟨ret_bool ?_, rfl⟩
  all_goals first | rfl | (simp [*]; done) | (simp [nmOk, *]; done) | (simp [*]; omega) | (simp [nmOk, *]; omega)
theorem register_any (r : Int) (w : World) : Calls Try.prog 57 #[.int .i64 r] w fun e w' => e = .returned (.bool (rOk r)) ∧ w = w' := by
  go_enter Try.func57, Try.ntmps57
  go_wp2_with (refine (between_any _ _ _ _).mono ?_; rintro e w' ⟨rfl, rfl⟩)
  all_goals go_ret
  all_goals refine ⟨ret_bool ?_, rfl⟩
  all_goals first | rfl | (simp [rOk, *]; done) | (simp [rOk, *]; omega)
theorem pd0 {s : ByteArray} {ar n : Int} (h : n = 0) : pdOk s ar n = (nmOk s && (decide (0 ≤ ar) && decide (ar ≤ 8))) := by unfold pdOk; rw [if_pos h]
theorem pd1 {s : ByteArray} {ar n : Int} (h : n ≠ 0) : pdOk s ar n = (s.toList.isEmpty && (decide (1 ≤ n) && (decide (n ≤ 1099511627776) && (decide (0 ≤ ar) && decide (ar ≤ 4096))))) := by unfold pdOk; rw [if_neg h]
theorem validPred_any (s : ByteArray) (ar n : Int) (w : World) : Calls Try.prog 62 #[.agg #[.string s, .int .i64 ar, .int .i64 n]] w fun e w' => e = .returned (.bool (pdOk s ar n)) ∧ Below w.heap.size w w' := by
  have key : ∀ b, b = pdOk s ar n → Ending.returned (.bool b) = .returned (.bool (pdOk s ar n)) := fun b h => by rw [h]
  by_cases hn : n = 0
  · have H := Lib.hid (pd0 (s := s) (ar := ar) hn)
    have h0 : (n == 0) = true := by simpa using hn
    clear hn
    go_enter Try.func62, Try.ntmps62
    go_wp2
    all_goals go_ret
    all_goals refine ⟨key _ ?_, bAlloc _ _⟩
    all_goals rw [H.out]
    all_goals first | rfl | (simp [*]; done) | (simp [nmOk, *]; done) | (simp [*]; omega) | (simp [nmOk, *]; omega)
  · have H := Lib.hid (pd1 (s := s) (ar := ar) hn)
    have h0 : (n == 0) = false := by simpa using hn
    clear hn
    go_enter Try.func62, Try.ntmps62
    go_wp2
    all_goals go_ret
    all_goals refine ⟨key _ ?_, bAlloc _ _⟩
    all_goals rw [H.out]
    all_goals first | rfl | (simp [*]; done) | (simp [*]; omega)
theorem predicate_any (x : In) (w : World) : Calls Try.prog 53 #[x.v] w fun e w' => e = .returned (.bool (pdOk x.nm x.ar x.n)) ∧ Below w.heap.size w w' := by
  have key : ∀ b, b = pdOk x.nm x.ar x.n → Ending.returned (.bool b) = .returned (.bool (pdOk x.nm x.ar x.n)) := fun b h => by rw [h]
  by_cases hn : x.n = 0
  · have H := Lib.hid (pd0 (s := x.nm) (ar := x.ar) hn)
    have h0 : (x.n == 0) = true := by simpa using hn
    clear hn
    go_enter Try.func53, Try.ntmps53
    go_wp2
    all_goals go_ret
    all_goals refine ⟨key _ ?_, bAlloc _ _⟩
    all_goals rw [H.out]
    all_goals first | rfl | (simp [*]; done) | (simp [nmOk, *]; done) | (simp [*]; omega) | (simp [nmOk, *]; omega)
  · have H := Lib.hid (pd1 (s := x.nm) (ar := x.ar) hn)
    have h0 : (x.n == 0) = false := by simpa using hn
    clear hn
    go_enter Try.func53, Try.ntmps53
    go_wp2
    all_goals go_ret
    all_goals refine ⟨key _ ?_, bAlloc _ _⟩
    all_goals rw [H.out]
    all_goals first | rfl | (simp [*]; done) | (simp [*]; omega)
theorem ValidPred_any (s : ByteArray) (ar n : Int) (w : World) : Calls Try.prog 60 #[.agg #[.string s, .int .i64 ar, .int .i64 n]] w fun e w' => e = .returned (.bool (pdOk s ar n)) ∧ Below w.heap.size w w' := by
  have key : ∀ b, b = pdOk s ar n → Ending.returned (.bool b) = .returned (.bool (pdOk s ar n)) := fun b h => by rw [h]
  by_cases hn : n = 0
  · have H := Lib.hid (pd0 (s := s) (ar := ar) hn)
    have h0 : (n == 0) = true := by simpa using hn
    clear hn
    go_enter Try.func60, Try.ntmps60
    go_wp2_with (first | (refine (between_any _ _ _ _).mono ?_; rintro e w' ⟨rfl, rfl⟩) | (refine (named_any _ _).mono ?_; rintro e w' ⟨rfl, rfl⟩))
    all_goals go_ret
    all_goals refine ⟨key _ ?_, bAlloc _ _⟩
    all_goals rw [H.out]
    all_goals first | rfl | (simp [*]; done) | (simp [nmOk, *]; done) | (simp [*]; omega) | (simp [nmOk, *]; omega)
  · have H := Lib.hid (pd1 (s := s) (ar := ar) hn)
    have h0 : (n == 0) = false := by simpa using hn
    clear hn
    go_enter Try.func60, Try.ntmps60
    go_wp2_with (first | (refine (between_any _ _ _ _).mono ?_; rintro e w' ⟨rfl, rfl⟩) | (refine (named_any _ _).mono ?_; rintro e w' ⟨rfl, rfl⟩))
    all_goals go_ret
    all_goals refine ⟨key _ ?_, bAlloc _ _⟩
    all_goals rw [H.out]
    all_goals first | rfl | (simp [*]; done) | (simp [*]; omega)
end Go.Proofs.Yteffpeokialeiaa
