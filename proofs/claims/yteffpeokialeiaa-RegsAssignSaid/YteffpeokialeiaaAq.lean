/-
  Walks: regs.formed, an opcode at a time.
-/
import Derived.Test.YteffpeokialeiaaAl
import Derived.Test.YteffpeokialeiaaAe
import Derived.Deep.DeepCutAuto
import Derived.Outline
namespace Go.Proofs.Yteffpeokialeiaa
open Go.RowKit

def stB (nm : ByteArray) (ar : Int) : Bool := nmOk nm && (decide (1 ≤ ar) && decide (ar ≤ 8))
set_option maxRecDepth 100000 in
set_option maxHeartbeats 400000 in
theorem rformed1 (r a n : Int) (nm : ByteArray) (ar : Int) (w : World) : Calls Try.prog 37 #[(⟨1, r, a, n, nm, ar⟩ : In).v] w fun e w' => e = .returned (.bool (fo ⟨1, r, a, n, nm, ar⟩)) ∧ Below w.heap.size w w' := by
  have HE := Lib.hid (fo1 r a n nm ar)
  go_enter Try.func37, Try.ntmps37
  go_upto_region 1 with (fail)
  go_cut [3] from 4 to 17 (fun s3 wx => s3 = .bool (stB nm ar) ∧ wx = w.alloc (.cells #[.int .i64 1, .int .i64 r, .int .i64 a, .int .i64 n, .string nm, .int .i64 ar] 23))
  case first =>
    go_wp2_with fail
    all_goals go_meet
    all_goals exact ⟨congrArg Value.bool (by first | (simp [stB, nmOk, *]; done) | (simp [stB, nmOk, *]; omega)), rfl⟩
  case rest =>
    obtain ⟨rfl, rfl⟩ := hcut
    go_wp2_with (first | ((with_reducible refine (regR_any _ _).mono ?_); rintro e w' ⟨rfl, rfl⟩) | ((with_reducible refine (regA_any _ _).mono ?_); rintro e w' ⟨rfl, rfl⟩))
    all_goals go_ret
    all_goals refine ⟨ret_bool ?_, bAlloc _ _⟩
    all_goals rw [HE.out]
    all_goals first | rfl | (rw [show (nmOk nm && (decide (1 ≤ ar) && decide (ar ≤ 8))) = stB nm ar from rfl]; simp [sameI, *]; done) | (simp [sameI, *]; done) | (simp [sameI, *]; omega) | (unfold nmOk; simp [sameI, *]; done) | (unfold nmOk; simp [sameI, *]; omega)
set_option maxRecDepth 100000 in
set_option maxHeartbeats 400000 in
theorem rformed2 (r a n : Int) (nm : ByteArray) (ar : Int) (w : World) : Calls Try.prog 37 #[(⟨2, r, a, n, nm, ar⟩ : In).v] w fun e w' => e = .returned (.bool (fo ⟨2, r, a, n, nm, ar⟩)) ∧ Below w.heap.size w w' := by
  have HE := Lib.hid (fo2 r a n nm ar)
  go_enter Try.func37, Try.ntmps37
  go_upto_region 1 with (fail)
  go_cut [3] from 4 to 17 (fun s3 wx => s3 = .bool (stB nm ar) ∧ wx = w.alloc (.cells #[.int .i64 2, .int .i64 r, .int .i64 a, .int .i64 n, .string nm, .int .i64 ar] 23))
  case first =>
    go_wp2_with fail
    all_goals go_meet
    all_goals exact ⟨congrArg Value.bool (by first | (simp [stB, nmOk, *]; done) | (simp [stB, nmOk, *]; omega)), rfl⟩
  case rest =>
    obtain ⟨rfl, rfl⟩ := hcut
    go_wp2_with (first | ((with_reducible refine (regR_any _ _).mono ?_); rintro e w' ⟨rfl, rfl⟩) | ((with_reducible refine (regA_any _ _).mono ?_); rintro e w' ⟨rfl, rfl⟩))
    all_goals go_ret
    all_goals refine ⟨ret_bool ?_, bAlloc _ _⟩
    all_goals rw [HE.out]
    all_goals first | rfl | (rw [show (nmOk nm && (decide (1 ≤ ar) && decide (ar ≤ 8))) = stB nm ar from rfl]; simp [sameI, *]; done) | (simp [sameI, *]; done) | (simp [sameI, *]; omega) | (unfold nmOk; simp [sameI, *]; done) | (unfold nmOk; simp [sameI, *]; omega)
set_option maxRecDepth 100000 in
set_option maxHeartbeats 400000 in
theorem rformed3 (r a n : Int) (nm : ByteArray) (ar : Int) (w : World) : Calls Try.prog 37 #[(⟨3, r, a, n, nm, ar⟩ : In).v] w fun e w' => e = .returned (.bool (fo ⟨3, r, a, n, nm, ar⟩)) ∧ Below w.heap.size w w' := by
  have HE := Lib.hid (fo3 r a n nm ar)
  go_enter Try.func37, Try.ntmps37
  go_upto_region 1 with (fail)
  go_cut [3] from 4 to 17 (fun s3 wx => s3 = .bool (stB nm ar) ∧ wx = w.alloc (.cells #[.int .i64 3, .int .i64 r, .int .i64 a, .int .i64 n, .string nm, .int .i64 ar] 23))
  case first =>
    go_wp2_with fail
    all_goals go_meet
    all_goals exact ⟨congrArg Value.bool (by first | (simp [stB, nmOk, *]; done) | (simp [stB, nmOk, *]; omega)), rfl⟩
  case rest =>
    obtain ⟨rfl, rfl⟩ := hcut
    go_wp2_with ((with_reducible refine (regA_any _ _).mono ?_); rintro e w' ⟨rfl, rfl⟩)
    all_goals go_ret
    all_goals refine ⟨ret_bool ?_, bAlloc _ _⟩
    all_goals rw [HE.out]
    all_goals first | rfl | (rw [show (nmOk nm && (decide (1 ≤ ar) && decide (ar ≤ 8))) = stB nm ar from rfl]; simp [sameI, *]; done) | (simp [sameI, *]; done) | (simp [sameI, *]; omega) | (unfold nmOk; simp [sameI, *]; done) | (unfold nmOk; simp [sameI, *]; omega)
set_option maxRecDepth 100000 in
set_option maxHeartbeats 400000 in
theorem rformed4 (r a n : Int) (nm : ByteArray) (ar : Int) (w : World) : Calls Try.prog 37 #[(⟨4, r, a, n, nm, ar⟩ : In).v] w fun e w' => e = .returned (.bool (fo ⟨4, r, a, n, nm, ar⟩)) ∧ Below w.heap.size w w' := by
  have HE := Lib.hid (fo4 r a n nm ar)
  go_enter Try.func37, Try.ntmps37
  go_upto_region 1 with (fail)
  go_cut [3] from 4 to 17 (fun s3 wx => s3 = .bool (stB nm ar) ∧ wx = w.alloc (.cells #[.int .i64 4, .int .i64 r, .int .i64 a, .int .i64 n, .string nm, .int .i64 ar] 23))
  case first =>
    go_wp2_with fail
    all_goals go_meet
    all_goals exact ⟨congrArg Value.bool (by first | (simp [stB, nmOk, *]; done) | (simp [stB, nmOk, *]; omega)), rfl⟩
  case rest =>
    obtain ⟨rfl, rfl⟩ := hcut
    go_wp2_with ((with_reducible refine (regA_any _ _).mono ?_); rintro e w' ⟨rfl, rfl⟩)
    all_goals go_ret
    all_goals refine ⟨ret_bool ?_, bAlloc _ _⟩
    all_goals rw [HE.out]
    all_goals first | rfl | (rw [show (nmOk nm && (decide (1 ≤ ar) && decide (ar ≤ 8))) = stB nm ar from rfl]; simp [sameI, *]; done) | (simp [sameI, *]; done) | (simp [sameI, *]; omega) | (unfold nmOk; simp [sameI, *]; done) | (unfold nmOk; simp [sameI, *]; omega)
set_option maxRecDepth 100000 in
set_option maxHeartbeats 400000 in
theorem rformed5 (r a n : Int) (nm : ByteArray) (ar : Int) (w : World) : Calls Try.prog 37 #[(⟨5, r, a, n, nm, ar⟩ : In).v] w fun e w' => e = .returned (.bool (fo ⟨5, r, a, n, nm, ar⟩)) ∧ Below w.heap.size w w' := by
  have HE := Lib.hid (fo5 r a n nm ar)
  go_enter Try.func37, Try.ntmps37
  go_upto_region 1 with (fail)
  go_cut [3] from 4 to 17 (fun s3 wx => s3 = .bool (stB nm ar) ∧ wx = w.alloc (.cells #[.int .i64 5, .int .i64 r, .int .i64 a, .int .i64 n, .string nm, .int .i64 ar] 23))
  case first =>
    go_wp2_with fail
    all_goals go_meet
    all_goals exact ⟨congrArg Value.bool (by first | (simp [stB, nmOk, *]; done) | (simp [stB, nmOk, *]; omega)), rfl⟩
  case rest =>
    obtain ⟨rfl, rfl⟩ := hcut
    go_wp2_with ((with_reducible refine (regA_any _ _).mono ?_); rintro e w' ⟨rfl, rfl⟩)
    all_goals go_ret
    all_goals refine ⟨ret_bool ?_, bAlloc _ _⟩
    all_goals rw [HE.out]
    all_goals first | rfl | (rw [show (nmOk nm && (decide (1 ≤ ar) && decide (ar ≤ 8))) = stB nm ar from rfl]; simp [sameI, *]; done) | (simp [sameI, *]; done) | (simp [sameI, *]; omega) | (unfold nmOk; simp [sameI, *]; done) | (unfold nmOk; simp [sameI, *]; omega)
set_option maxRecDepth 100000 in
set_option maxHeartbeats 400000 in
theorem rformed6 (r a n : Int) (nm : ByteArray) (ar : Int) (w : World) : Calls Try.prog 37 #[(⟨6, r, a, n, nm, ar⟩ : In).v] w fun e w' => e = .returned (.bool (fo ⟨6, r, a, n, nm, ar⟩)) ∧ Below w.heap.size w w' := by
  have HE := Lib.hid (fo6 r a n nm ar)
  go_enter Try.func37, Try.ntmps37
  go_upto_region 1 with (fail)
  go_cut [3] from 4 to 17 (fun s3 wx => s3 = .bool (stB nm ar) ∧ wx = w.alloc (.cells #[.int .i64 6, .int .i64 r, .int .i64 a, .int .i64 n, .string nm, .int .i64 ar] 23))
  case first =>
    go_wp2_with fail
    all_goals go_meet
    all_goals exact ⟨congrArg Value.bool (by first | (simp [stB, nmOk, *]; done) | (simp [stB, nmOk, *]; omega)), rfl⟩
  case rest =>
    obtain ⟨rfl, rfl⟩ := hcut
    go_wp2_with ((with_reducible refine (regR_any _ _).mono ?_); rintro e w' ⟨rfl, rfl⟩)
    all_goals go_ret
    all_goals refine ⟨ret_bool ?_, bAlloc _ _⟩
    all_goals rw [HE.out]
    all_goals first | rfl | (rw [show (nmOk nm && (decide (1 ≤ ar) && decide (ar ≤ 8))) = stB nm ar from rfl]; simp [sameI, *]; done) | (simp [sameI, *]; done) | (simp [sameI, *]; omega) | (unfold nmOk; simp [sameI, *]; done) | (unfold nmOk; simp [sameI, *]; omega)
set_option maxRecDepth 100000 in
set_option maxHeartbeats 400000 in
theorem rformed7 (r a n : Int) (nm : ByteArray) (ar : Int) (w : World) : Calls Try.prog 37 #[(⟨7, r, a, n, nm, ar⟩ : In).v] w fun e w' => e = .returned (.bool (fo ⟨7, r, a, n, nm, ar⟩)) ∧ Below w.heap.size w w' := by
  have HE := Lib.hid (fo7 r a n nm ar)
  go_enter Try.func37, Try.ntmps37
  go_upto_region 1 with (fail)
  go_cut [3] from 4 to 17 (fun s3 wx => s3 = .bool (stB nm ar) ∧ wx = w.alloc (.cells #[.int .i64 7, .int .i64 r, .int .i64 a, .int .i64 n, .string nm, .int .i64 ar] 23))
  case first =>
    go_wp2_with fail
    all_goals go_meet
    all_goals exact ⟨congrArg Value.bool (by first | (simp [stB, nmOk, *]; done) | (simp [stB, nmOk, *]; omega)), rfl⟩
  case rest =>
    obtain ⟨rfl, rfl⟩ := hcut
    go_wp2_with ((with_reducible refine (regR_any _ _).mono ?_); rintro e w' ⟨rfl, rfl⟩)
    all_goals go_ret
    all_goals refine ⟨ret_bool ?_, bAlloc _ _⟩
    all_goals rw [HE.out]
    all_goals first | rfl | (rw [show (nmOk nm && (decide (1 ≤ ar) && decide (ar ≤ 8))) = stB nm ar from rfl]; simp [sameI, *]; done) | (simp [sameI, *]; done) | (simp [sameI, *]; omega) | (unfold nmOk; simp [sameI, *]; done) | (unfold nmOk; simp [sameI, *]; omega)
set_option maxRecDepth 100000 in
set_option maxHeartbeats 400000 in
theorem rformed8 (r a n : Int) (nm : ByteArray) (ar : Int) (w : World) : Calls Try.prog 37 #[(⟨8, r, a, n, nm, ar⟩ : In).v] w fun e w' => e = .returned (.bool (fo ⟨8, r, a, n, nm, ar⟩)) ∧ Below w.heap.size w w' := by
  have HE := Lib.hid (fo8 r a n nm ar)
  go_enter Try.func37, Try.ntmps37
  go_upto_region 1 with (fail)
  go_cut [3] from 4 to 17 (fun s3 wx => s3 = .bool (stB nm ar) ∧ wx = w.alloc (.cells #[.int .i64 8, .int .i64 r, .int .i64 a, .int .i64 n, .string nm, .int .i64 ar] 23))
  case first =>
    go_wp2_with fail
    all_goals go_meet
    all_goals exact ⟨congrArg Value.bool (by first | (simp [stB, nmOk, *]; done) | (simp [stB, nmOk, *]; omega)), rfl⟩
  case rest =>
    obtain ⟨rfl, rfl⟩ := hcut
    go_wp2_with fail
    all_goals go_ret
    all_goals refine ⟨ret_bool ?_, bAlloc _ _⟩
    all_goals rw [HE.out]
    all_goals first | rfl | (rw [show (nmOk nm && (decide (1 ≤ ar) && decide (ar ≤ 8))) = stB nm ar from rfl]; simp [sameI, *]; done) | (simp [sameI, *]; done) | (simp [sameI, *]; omega) | (unfold nmOk; simp [sameI, *]; done) | (unfold nmOk; simp [sameI, *]; omega)
set_option maxRecDepth 100000 in
set_option maxHeartbeats 400000 in
theorem rformed9 (r a n : Int) (nm : ByteArray) (ar : Int) (w : World) : Calls Try.prog 37 #[(⟨9, r, a, n, nm, ar⟩ : In).v] w fun e w' => e = .returned (.bool (fo ⟨9, r, a, n, nm, ar⟩)) ∧ Below w.heap.size w w' := by
  have HE := Lib.hid (fo9 r a n nm ar)
  go_enter Try.func37, Try.ntmps37
  go_upto_region 1 with (fail)
  go_cut [3] from 4 to 17 (fun s3 wx => s3 = .bool (stB nm ar) ∧ wx = w.alloc (.cells #[.int .i64 9, .int .i64 r, .int .i64 a, .int .i64 n, .string nm, .int .i64 ar] 23))
  case first =>
    go_wp2_with fail
    all_goals go_meet
    all_goals exact ⟨congrArg Value.bool (by first | (simp [stB, nmOk, *]; done) | (simp [stB, nmOk, *]; omega)), rfl⟩
  case rest =>
    obtain ⟨rfl, rfl⟩ := hcut
    go_wp2_with fail
    all_goals go_ret
    all_goals refine ⟨ret_bool ?_, bAlloc _ _⟩
    all_goals rw [HE.out]
    all_goals first | rfl | (rw [show (nmOk nm && (decide (1 ≤ ar) && decide (ar ≤ 8))) = stB nm ar from rfl]; simp [sameI, *]; done) | (simp [sameI, *]; done) | (simp [sameI, *]; omega) | (unfold nmOk; simp [sameI, *]; done) | (unfold nmOk; simp [sameI, *]; omega)
set_option maxRecDepth 100000 in
set_option maxHeartbeats 400000 in
theorem rformed10 (r a n : Int) (nm : ByteArray) (ar : Int) (w : World) : Calls Try.prog 37 #[(⟨10, r, a, n, nm, ar⟩ : In).v] w fun e w' => e = .returned (.bool (fo ⟨10, r, a, n, nm, ar⟩)) ∧ Below w.heap.size w w' := by
  have HE := Lib.hid (fo10 r a n nm ar)
  go_enter Try.func37, Try.ntmps37
  go_upto_region 1 with (fail)
  go_cut [3] from 4 to 17 (fun s3 wx => s3 = .bool (stB nm ar) ∧ wx = w.alloc (.cells #[.int .i64 10, .int .i64 r, .int .i64 a, .int .i64 n, .string nm, .int .i64 ar] 23))
  case first =>
    go_wp2_with fail
    all_goals go_meet
    all_goals exact ⟨congrArg Value.bool (by first | (simp [stB, nmOk, *]; done) | (simp [stB, nmOk, *]; omega)), rfl⟩
  case rest =>
    obtain ⟨rfl, rfl⟩ := hcut
    go_wp2_with fail
    all_goals go_ret
    all_goals refine ⟨ret_bool ?_, bAlloc _ _⟩
    all_goals rw [HE.out]
    all_goals first | rfl | (rw [show (nmOk nm && (decide (1 ≤ ar) && decide (ar ≤ 8))) = stB nm ar from rfl]; simp [sameI, *]; done) | (simp [sameI, *]; done) | (simp [sameI, *]; omega) | (unfold nmOk; simp [sameI, *]; done) | (unfold nmOk; simp [sameI, *]; omega)
set_option maxRecDepth 100000 in
set_option maxHeartbeats 400000 in
theorem rformed11 (r a n : Int) (nm : ByteArray) (ar : Int) (w : World) : Calls Try.prog 37 #[(⟨11, r, a, n, nm, ar⟩ : In).v] w fun e w' => e = .returned (.bool (fo ⟨11, r, a, n, nm, ar⟩)) ∧ Below w.heap.size w w' := by
  have HE := Lib.hid (fo11 r a n nm ar)
  go_enter Try.func37, Try.ntmps37
  go_upto_region 1 with (fail)
  go_cut [3] from 4 to 17 (fun s3 wx => s3 = .bool (stB nm ar) ∧ wx = w.alloc (.cells #[.int .i64 11, .int .i64 r, .int .i64 a, .int .i64 n, .string nm, .int .i64 ar] 23))
  case first =>
    go_wp2_with fail
    all_goals go_meet
    all_goals exact ⟨congrArg Value.bool (by first | (simp [stB, nmOk, *]; done) | (simp [stB, nmOk, *]; omega)), rfl⟩
  case rest =>
    obtain ⟨rfl, rfl⟩ := hcut
    go_wp2_with (first | ((with_reducible refine (regR_any _ _).mono ?_); rintro e w' ⟨rfl, rfl⟩) | ((with_reducible refine (regA_any _ _).mono ?_); rintro e w' ⟨rfl, rfl⟩))
    all_goals go_ret
    all_goals refine ⟨ret_bool ?_, bAlloc _ _⟩
    all_goals rw [HE.out]
    all_goals first | rfl | (rw [show (nmOk nm && (decide (1 ≤ ar) && decide (ar ≤ 8))) = stB nm ar from rfl]; simp [sameI, *]; done) | (simp [sameI, *]; done) | (simp [sameI, *]; omega) | (unfold nmOk; simp [sameI, *]; done) | (unfold nmOk; simp [sameI, *]; omega)
set_option maxRecDepth 100000 in
set_option maxHeartbeats 400000 in
theorem rformed12 (r a n : Int) (nm : ByteArray) (ar : Int) (w : World) : Calls Try.prog 37 #[(⟨12, r, a, n, nm, ar⟩ : In).v] w fun e w' => e = .returned (.bool (fo ⟨12, r, a, n, nm, ar⟩)) ∧ Below w.heap.size w w' := by
  have HE := Lib.hid (fo12 r a n nm ar)
  go_enter Try.func37, Try.ntmps37
  go_upto_region 1 with (fail)
  go_cut [3] from 4 to 17 (fun s3 wx => s3 = .bool (stB nm ar) ∧ wx = w.alloc (.cells #[.int .i64 12, .int .i64 r, .int .i64 a, .int .i64 n, .string nm, .int .i64 ar] 23))
  case first =>
    go_wp2_with fail
    all_goals go_meet
    all_goals exact ⟨congrArg Value.bool (by first | (simp [stB, nmOk, *]; done) | (simp [stB, nmOk, *]; omega)), rfl⟩
  case rest =>
    obtain ⟨rfl, rfl⟩ := hcut
    go_wp2_with (first | ((with_reducible refine (regR_any _ _).mono ?_); rintro e w' ⟨rfl, rfl⟩) | ((with_reducible refine (regA_any _ _).mono ?_); rintro e w' ⟨rfl, rfl⟩))
    all_goals go_ret
    all_goals refine ⟨ret_bool ?_, bAlloc _ _⟩
    all_goals rw [HE.out]
    all_goals first | rfl | (rw [show (nmOk nm && (decide (1 ≤ ar) && decide (ar ≤ 8))) = stB nm ar from rfl]; simp [sameI, *]; done) | (simp [sameI, *]; done) | (simp [sameI, *]; omega) | (unfold nmOk; simp [sameI, *]; done) | (unfold nmOk; simp [sameI, *]; omega)
set_option maxRecDepth 100000 in
set_option maxHeartbeats 400000 in
theorem rformed13 (r a n : Int) (nm : ByteArray) (ar : Int) (w : World) : Calls Try.prog 37 #[(⟨13, r, a, n, nm, ar⟩ : In).v] w fun e w' => e = .returned (.bool (fo ⟨13, r, a, n, nm, ar⟩)) ∧ Below w.heap.size w w' := by
  have HE := Lib.hid (fo13 r a n nm ar)
  go_enter Try.func37, Try.ntmps37
  go_upto_region 1 with (fail)
  go_cut [3] from 4 to 17 (fun s3 wx => s3 = .bool (stB nm ar) ∧ wx = w.alloc (.cells #[.int .i64 13, .int .i64 r, .int .i64 a, .int .i64 n, .string nm, .int .i64 ar] 23))
  case first =>
    go_wp2_with fail
    all_goals go_meet
    all_goals exact ⟨congrArg Value.bool (by first | (simp [stB, nmOk, *]; done) | (simp [stB, nmOk, *]; omega)), rfl⟩
  case rest =>
    obtain ⟨rfl, rfl⟩ := hcut
    go_wp2_with ((with_reducible refine (regA_any _ _).mono ?_); rintro e w' ⟨rfl, rfl⟩)
    all_goals go_ret
    all_goals refine ⟨ret_bool ?_, bAlloc _ _⟩
    all_goals rw [HE.out]
    all_goals first | rfl | (rw [show (nmOk nm && (decide (1 ≤ ar) && decide (ar ≤ 8))) = stB nm ar from rfl]; simp [sameI, *]; done) | (simp [sameI, *]; done) | (simp [sameI, *]; omega) | (unfold nmOk; simp [sameI, *]; done) | (unfold nmOk; simp [sameI, *]; omega)
set_option maxRecDepth 100000 in
set_option maxHeartbeats 400000 in
theorem rformed14 (r a n : Int) (nm : ByteArray) (ar : Int) (w : World) : Calls Try.prog 37 #[(⟨14, r, a, n, nm, ar⟩ : In).v] w fun e w' => e = .returned (.bool (fo ⟨14, r, a, n, nm, ar⟩)) ∧ Below w.heap.size w w' := by
  have HE := Lib.hid (fo14 r a n nm ar)
  go_enter Try.func37, Try.ntmps37
  go_upto_region 1 with (fail)
  go_cut [3] from 4 to 17 (fun s3 wx => s3 = .bool (stB nm ar) ∧ wx = w.alloc (.cells #[.int .i64 14, .int .i64 r, .int .i64 a, .int .i64 n, .string nm, .int .i64 ar] 23))
  case first =>
    go_wp2_with fail
    all_goals go_meet
    all_goals exact ⟨congrArg Value.bool (by first | (simp [stB, nmOk, *]; done) | (simp [stB, nmOk, *]; omega)), rfl⟩
  case rest =>
    obtain ⟨rfl, rfl⟩ := hcut
    go_wp2_with ((with_reducible refine (regA_any _ _).mono ?_); rintro e w' ⟨rfl, rfl⟩)
    all_goals go_ret
    all_goals refine ⟨ret_bool ?_, bAlloc _ _⟩
    all_goals rw [HE.out]
    all_goals first | rfl | (rw [show (nmOk nm && (decide (1 ≤ ar) && decide (ar ≤ 8))) = stB nm ar from rfl]; simp [sameI, *]; done) | (simp [sameI, *]; done) | (simp [sameI, *]; omega) | (unfold nmOk; simp [sameI, *]; done) | (unfold nmOk; simp [sameI, *]; omega)
set_option maxRecDepth 100000 in
set_option maxHeartbeats 400000 in
theorem rformed15 (r a n : Int) (nm : ByteArray) (ar : Int) (w : World) : Calls Try.prog 37 #[(⟨15, r, a, n, nm, ar⟩ : In).v] w fun e w' => e = .returned (.bool (fo ⟨15, r, a, n, nm, ar⟩)) ∧ Below w.heap.size w w' := by
  have HE := Lib.hid (fo15 r a n nm ar)
  go_enter Try.func37, Try.ntmps37
  go_upto_region 1 with (fail)
  go_cut [3] from 4 to 17 (fun s3 wx => s3 = .bool (stB nm ar) ∧ wx = w.alloc (.cells #[.int .i64 15, .int .i64 r, .int .i64 a, .int .i64 n, .string nm, .int .i64 ar] 23))
  case first =>
    go_wp2_with fail
    all_goals go_meet
    all_goals exact ⟨congrArg Value.bool (by first | (simp [stB, nmOk, *]; done) | (simp [stB, nmOk, *]; omega)), rfl⟩
  case rest =>
    obtain ⟨rfl, rfl⟩ := hcut
    go_wp2_with ((with_reducible refine (regR_any _ _).mono ?_); rintro e w' ⟨rfl, rfl⟩)
    all_goals go_ret
    all_goals refine ⟨ret_bool ?_, bAlloc _ _⟩
    all_goals rw [HE.out]
    all_goals first | rfl | (rw [show (nmOk nm && (decide (1 ≤ ar) && decide (ar ≤ 8))) = stB nm ar from rfl]; simp [sameI, *]; done) | (simp [sameI, *]; done) | (simp [sameI, *]; omega) | (unfold nmOk; simp [sameI, *]; done) | (unfold nmOk; simp [sameI, *]; omega)
set_option maxRecDepth 100000 in
set_option maxHeartbeats 400000 in
theorem rformed16 (r a n : Int) (nm : ByteArray) (ar : Int) (w : World) : Calls Try.prog 37 #[(⟨16, r, a, n, nm, ar⟩ : In).v] w fun e w' => e = .returned (.bool (fo ⟨16, r, a, n, nm, ar⟩)) ∧ Below w.heap.size w w' := by
  have HE := Lib.hid (fo16 r a n nm ar)
  go_enter Try.func37, Try.ntmps37
  go_upto_region 1 with (fail)
  go_cut [3] from 4 to 17 (fun s3 wx => s3 = .bool (stB nm ar) ∧ wx = w.alloc (.cells #[.int .i64 16, .int .i64 r, .int .i64 a, .int .i64 n, .string nm, .int .i64 ar] 23))
  case first =>
    go_wp2_with fail
    all_goals go_meet
    all_goals exact ⟨congrArg Value.bool (by first | (simp [stB, nmOk, *]; done) | (simp [stB, nmOk, *]; omega)), rfl⟩
  case rest =>
    obtain ⟨rfl, rfl⟩ := hcut
    go_wp2_with fail
    all_goals go_ret
    all_goals refine ⟨ret_bool ?_, bAlloc _ _⟩
    all_goals rw [HE.out]
    all_goals first | rfl | (rw [show (nmOk nm && (decide (1 ≤ ar) && decide (ar ≤ 8))) = stB nm ar from rfl]; simp [sameI, *]; done) | (simp [sameI, *]; done) | (simp [sameI, *]; omega) | (unfold nmOk; simp [sameI, *]; done) | (unfold nmOk; simp [sameI, *]; omega)
set_option maxRecDepth 100000 in
set_option maxHeartbeats 400000 in
theorem rformed17 (r a n : Int) (nm : ByteArray) (ar : Int) (w : World) : Calls Try.prog 37 #[(⟨17, r, a, n, nm, ar⟩ : In).v] w fun e w' => e = .returned (.bool (fo ⟨17, r, a, n, nm, ar⟩)) ∧ Below w.heap.size w w' := by
  have HE := Lib.hid (fo17 r a n nm ar)
  go_enter Try.func37, Try.ntmps37
  go_upto_region 1 with (fail)
  go_cut [3] from 4 to 17 (fun s3 wx => s3 = .bool (stB nm ar) ∧ wx = w.alloc (.cells #[.int .i64 17, .int .i64 r, .int .i64 a, .int .i64 n, .string nm, .int .i64 ar] 23))
  case first =>
    go_wp2_with fail
    all_goals go_meet
    all_goals exact ⟨congrArg Value.bool (by first | (simp [stB, nmOk, *]; done) | (simp [stB, nmOk, *]; omega)), rfl⟩
  case rest =>
    obtain ⟨rfl, rfl⟩ := hcut
    go_wp2_with fail
    all_goals go_ret
    all_goals refine ⟨ret_bool ?_, bAlloc _ _⟩
    all_goals rw [HE.out]
    all_goals first | rfl | (rw [show (nmOk nm && (decide (1 ≤ ar) && decide (ar ≤ 8))) = stB nm ar from rfl]; simp [sameI, *]; done) | (simp [sameI, *]; done) | (simp [sameI, *]; omega) | (unfold nmOk; simp [sameI, *]; done) | (unfold nmOk; simp [sameI, *]; omega)
set_option maxRecDepth 100000 in
set_option maxHeartbeats 400000 in
theorem rformed18 (r a n : Int) (nm : ByteArray) (ar : Int) (w : World) : Calls Try.prog 37 #[(⟨18, r, a, n, nm, ar⟩ : In).v] w fun e w' => e = .returned (.bool (fo ⟨18, r, a, n, nm, ar⟩)) ∧ Below w.heap.size w w' := by
  have HE := Lib.hid (fo18 r a n nm ar)
  go_enter Try.func37, Try.ntmps37
  go_upto_region 1 with (fail)
  go_cut [3] from 4 to 17 (fun s3 wx => s3 = .bool (stB nm ar) ∧ wx = w.alloc (.cells #[.int .i64 18, .int .i64 r, .int .i64 a, .int .i64 n, .string nm, .int .i64 ar] 23))
  case first =>
    go_wp2_with fail
    all_goals go_meet
    all_goals exact ⟨congrArg Value.bool (by first | (simp [stB, nmOk, *]; done) | (simp [stB, nmOk, *]; omega)), rfl⟩
  case rest =>
    obtain ⟨rfl, rfl⟩ := hcut
    go_wp2_with fail
    all_goals go_ret
    all_goals refine ⟨ret_bool ?_, bAlloc _ _⟩
    all_goals rw [HE.out]
    all_goals first | rfl | (rw [show (nmOk nm && (decide (1 ≤ ar) && decide (ar ≤ 8))) = stB nm ar from rfl]; simp [sameI, *]; done) | (simp [sameI, *]; done) | (simp [sameI, *]; omega) | (unfold nmOk; simp [sameI, *]; done) | (unfold nmOk; simp [sameI, *]; omega)
set_option maxRecDepth 100000 in
set_option maxHeartbeats 400000 in
theorem rformed19 (r a n : Int) (nm : ByteArray) (ar : Int) (w : World) : Calls Try.prog 37 #[(⟨19, r, a, n, nm, ar⟩ : In).v] w fun e w' => e = .returned (.bool (fo ⟨19, r, a, n, nm, ar⟩)) ∧ Below w.heap.size w w' := by
  have HE := Lib.hid (fo19 r a n nm ar)
  go_enter Try.func37, Try.ntmps37
  go_upto_region 1 with (fail)
  go_cut [3] from 4 to 17 (fun s3 wx => s3 = .bool (stB nm ar) ∧ wx = w.alloc (.cells #[.int .i64 19, .int .i64 r, .int .i64 a, .int .i64 n, .string nm, .int .i64 ar] 23))
  case first =>
    go_wp2_with fail
    all_goals go_meet
    all_goals exact ⟨congrArg Value.bool (by first | (simp [stB, nmOk, *]; done) | (simp [stB, nmOk, *]; omega)), rfl⟩
  case rest =>
    obtain ⟨rfl, rfl⟩ := hcut
    go_wp2_with fail
    refine (predicate_any ⟨19, r, a, n, nm, ar⟩ _).mono ?_
    rintro e w2 ⟨rfl, hb⟩
    have hx1 := (BoxI.new w ⟨19, r, a, n, nm, ar⟩).next hb
    have HB := Lib.hid (bStart hb)
    clear hb
    obtain ⟨q0, q1, q2, q3, q4, q5⟩ := BoxI.cells hx1
    clear hx1
    go_wp2_with fail
    all_goals go_ret
    all_goals refine ⟨ret_bool ?_, HB.out⟩
    all_goals rw [HE.out]
    all_goals first | (simp [sameI, *]; done)
set_option maxRecDepth 100000 in
set_option maxHeartbeats 400000 in
theorem rformed20 (r a n : Int) (nm : ByteArray) (ar : Int) (w : World) : Calls Try.prog 37 #[(⟨20, r, a, n, nm, ar⟩ : In).v] w fun e w' => e = .returned (.bool (fo ⟨20, r, a, n, nm, ar⟩)) ∧ Below w.heap.size w w' := by
  have HE := Lib.hid (fo20 r a n nm ar)
  go_enter Try.func37, Try.ntmps37
  go_upto_region 1 with (fail)
  go_cut [3] from 4 to 17 (fun s3 wx => s3 = .bool (stB nm ar) ∧ wx = w.alloc (.cells #[.int .i64 20, .int .i64 r, .int .i64 a, .int .i64 n, .string nm, .int .i64 ar] 23))
  case first =>
    go_wp2_with fail
    all_goals go_meet
    all_goals exact ⟨congrArg Value.bool (by first | (simp [stB, nmOk, *]; done) | (simp [stB, nmOk, *]; omega)), rfl⟩
  case rest =>
    obtain ⟨rfl, rfl⟩ := hcut
    go_wp2_with fail
    refine (predicate_any ⟨20, r, a, n, nm, ar⟩ _).mono ?_
    rintro e w2 ⟨rfl, hb⟩
    have hx1 := (BoxI.new w ⟨20, r, a, n, nm, ar⟩).next hb
    have HB := Lib.hid (bStart hb)
    clear hb
    obtain ⟨q0, q1, q2, q3, q4, q5⟩ := BoxI.cells hx1
    clear hx1
    go_wp2_with fail
    all_goals go_ret
    all_goals refine ⟨ret_bool ?_, HB.out⟩
    all_goals rw [HE.out]
    all_goals first | (simp [sameI, *]; done)
set_option maxRecDepth 100000 in
set_option maxHeartbeats 400000 in
theorem rformed21 (r a n : Int) (nm : ByteArray) (ar : Int) (w : World) : Calls Try.prog 37 #[(⟨21, r, a, n, nm, ar⟩ : In).v] w fun e w' => e = .returned (.bool (fo ⟨21, r, a, n, nm, ar⟩)) ∧ Below w.heap.size w w' := by
  have HE := Lib.hid (fo21 r a n nm ar)
  go_enter Try.func37, Try.ntmps37
  go_upto_region 1 with (fail)
  go_cut [3] from 4 to 17 (fun s3 wx => s3 = .bool (stB nm ar) ∧ wx = w.alloc (.cells #[.int .i64 21, .int .i64 r, .int .i64 a, .int .i64 n, .string nm, .int .i64 ar] 23))
  case first =>
    go_wp2_with fail
    all_goals go_meet
    all_goals exact ⟨congrArg Value.bool (by first | (simp [stB, nmOk, *]; done) | (simp [stB, nmOk, *]; omega)), rfl⟩
  case rest =>
    obtain ⟨rfl, rfl⟩ := hcut
    go_wp2_with fail
    all_goals go_ret
    all_goals refine ⟨ret_bool ?_, bAlloc _ _⟩
    all_goals rw [HE.out]
    all_goals first | rfl | (rw [show (nmOk nm && (decide (1 ≤ ar) && decide (ar ≤ 8))) = stB nm ar from rfl]; simp [sameI, *]; done) | (simp [sameI, *]; done) | (simp [sameI, *]; omega) | (unfold nmOk; simp [sameI, *]; done) | (unfold nmOk; simp [sameI, *]; omega)
set_option maxRecDepth 100000 in
set_option maxHeartbeats 400000 in
theorem rformed22 (r a n : Int) (nm : ByteArray) (ar : Int) (w : World) : Calls Try.prog 37 #[(⟨22, r, a, n, nm, ar⟩ : In).v] w fun e w' => e = .returned (.bool (fo ⟨22, r, a, n, nm, ar⟩)) ∧ Below w.heap.size w w' := by
  have HE := Lib.hid (fo22 r a n nm ar)
  go_enter Try.func37, Try.ntmps37
  go_upto_region 1 with (fail)
  go_cut [3] from 4 to 17 (fun s3 wx => s3 = .bool (stB nm ar) ∧ wx = w.alloc (.cells #[.int .i64 22, .int .i64 r, .int .i64 a, .int .i64 n, .string nm, .int .i64 ar] 23))
  case first =>
    go_wp2_with fail
    all_goals go_meet
    all_goals exact ⟨congrArg Value.bool (by first | (simp [stB, nmOk, *]; done) | (simp [stB, nmOk, *]; omega)), rfl⟩
  case rest =>
    obtain ⟨rfl, rfl⟩ := hcut
    go_wp2_with ((with_reducible refine (regR_any _ _).mono ?_); rintro e w' ⟨rfl, rfl⟩)
    all_goals go_ret
    all_goals refine ⟨ret_bool ?_, bAlloc _ _⟩
    all_goals rw [HE.out]
    all_goals first | rfl | (rw [show (nmOk nm && (decide (1 ≤ ar) && decide (ar ≤ 8))) = stB nm ar from rfl]; simp [sameI, *]; done) | (simp [sameI, *]; done) | (simp [sameI, *]; omega) | (unfold nmOk; simp [sameI, *]; done) | (unfold nmOk; simp [sameI, *]; omega)
set_option maxRecDepth 100000 in
set_option maxHeartbeats 400000 in
theorem rformed23 (r a n : Int) (nm : ByteArray) (ar : Int) (w : World) : Calls Try.prog 37 #[(⟨23, r, a, n, nm, ar⟩ : In).v] w fun e w' => e = .returned (.bool (fo ⟨23, r, a, n, nm, ar⟩)) ∧ Below w.heap.size w w' := by
  have HE := Lib.hid (fo23 r a n nm ar)
  go_enter Try.func37, Try.ntmps37
  go_upto_region 1 with (fail)
  go_cut [3] from 4 to 17 (fun s3 wx => s3 = .bool (stB nm ar) ∧ wx = w.alloc (.cells #[.int .i64 23, .int .i64 r, .int .i64 a, .int .i64 n, .string nm, .int .i64 ar] 23))
  case first =>
    go_wp2_with fail
    all_goals go_meet
    all_goals exact ⟨congrArg Value.bool (by first | (simp [stB, nmOk, *]; done) | (simp [stB, nmOk, *]; omega)), rfl⟩
  case rest =>
    obtain ⟨rfl, rfl⟩ := hcut
    go_wp2_with ((with_reducible refine (regR_any _ _).mono ?_); rintro e w' ⟨rfl, rfl⟩)
    all_goals go_ret
    all_goals refine ⟨ret_bool ?_, bAlloc _ _⟩
    all_goals rw [HE.out]
    all_goals first | rfl | (rw [show (nmOk nm && (decide (1 ≤ ar) && decide (ar ≤ 8))) = stB nm ar from rfl]; simp [sameI, *]; done) | (simp [sameI, *]; done) | (simp [sameI, *]; omega) | (unfold nmOk; simp [sameI, *]; done) | (unfold nmOk; simp [sameI, *]; omega)
set_option maxRecDepth 100000 in
set_option maxHeartbeats 400000 in
theorem rformed24 (r a n : Int) (nm : ByteArray) (ar : Int) (w : World) : Calls Try.prog 37 #[(⟨24, r, a, n, nm, ar⟩ : In).v] w fun e w' => e = .returned (.bool (fo ⟨24, r, a, n, nm, ar⟩)) ∧ Below w.heap.size w w' := by
  have HE := Lib.hid (fo24 r a n nm ar)
  go_enter Try.func37, Try.ntmps37
  go_upto_region 1 with (fail)
  go_cut [3] from 4 to 17 (fun s3 wx => s3 = .bool (stB nm ar) ∧ wx = w.alloc (.cells #[.int .i64 24, .int .i64 r, .int .i64 a, .int .i64 n, .string nm, .int .i64 ar] 23))
  case first =>
    go_wp2_with fail
    all_goals go_meet
    all_goals exact ⟨congrArg Value.bool (by first | (simp [stB, nmOk, *]; done) | (simp [stB, nmOk, *]; omega)), rfl⟩
  case rest =>
    obtain ⟨rfl, rfl⟩ := hcut
    go_wp2_with ((with_reducible refine (regR_any _ _).mono ?_); rintro e w' ⟨rfl, rfl⟩)
    all_goals go_ret
    all_goals refine ⟨ret_bool ?_, bAlloc _ _⟩
    all_goals rw [HE.out]
    all_goals first | rfl | (rw [show (nmOk nm && (decide (1 ≤ ar) && decide (ar ≤ 8))) = stB nm ar from rfl]; simp [sameI, *]; done) | (simp [sameI, *]; done) | (simp [sameI, *]; omega) | (unfold nmOk; simp [sameI, *]; done) | (unfold nmOk; simp [sameI, *]; omega)
set_option maxRecDepth 100000 in
set_option maxHeartbeats 400000 in
theorem rformed25 (r a n : Int) (nm : ByteArray) (ar : Int) (w : World) : Calls Try.prog 37 #[(⟨25, r, a, n, nm, ar⟩ : In).v] w fun e w' => e = .returned (.bool (fo ⟨25, r, a, n, nm, ar⟩)) ∧ Below w.heap.size w w' := by
  have HE := Lib.hid (fo25 r a n nm ar)
  go_enter Try.func37, Try.ntmps37
  go_upto_region 1 with (fail)
  go_cut [3] from 4 to 17 (fun s3 wx => s3 = .bool (stB nm ar) ∧ wx = w.alloc (.cells #[.int .i64 25, .int .i64 r, .int .i64 a, .int .i64 n, .string nm, .int .i64 ar] 23))
  case first =>
    go_wp2_with fail
    all_goals go_meet
    all_goals exact ⟨congrArg Value.bool (by first | (simp [stB, nmOk, *]; done) | (simp [stB, nmOk, *]; omega)), rfl⟩
  case rest =>
    obtain ⟨rfl, rfl⟩ := hcut
    go_wp2_with fail
    all_goals go_ret
    all_goals refine ⟨ret_bool ?_, bAlloc _ _⟩
    all_goals rw [HE.out]
    all_goals first | rfl | (rw [show (nmOk nm && (decide (1 ≤ ar) && decide (ar ≤ 8))) = stB nm ar from rfl]; simp [sameI, *]; done) | (simp [sameI, *]; done) | (simp [sameI, *]; omega) | (unfold nmOk; simp [sameI, *]; done) | (unfold nmOk; simp [sameI, *]; omega)
set_option maxRecDepth 100000 in
set_option maxHeartbeats 400000 in
theorem rformedOut (x : In) (h : okOp x.op = false) (w : World) : Calls Try.prog 37 #[x.v] w fun e w' => e = .returned (.bool (fo x)) ∧ Below w.heap.size w w' := by
  have HE : Hid (fo x = false) := Lib.hid (by unfold fo; rw [h]; rfl)
  have hc : x.op < 1 ∨ 25 < x.op := by simp [okOp] at h; omega
  have n1 : (x.op == 1) = false := by rw [beq_eq_false_iff_ne]; omega
  have n2 : (x.op == 2) = false := by rw [beq_eq_false_iff_ne]; omega
  have n3 : (x.op == 3) = false := by rw [beq_eq_false_iff_ne]; omega
  have n4 : (x.op == 4) = false := by rw [beq_eq_false_iff_ne]; omega
  have n5 : (x.op == 5) = false := by rw [beq_eq_false_iff_ne]; omega
  have n6 : (x.op == 6) = false := by rw [beq_eq_false_iff_ne]; omega
  have n7 : (x.op == 7) = false := by rw [beq_eq_false_iff_ne]; omega
  have n8 : (x.op == 8) = false := by rw [beq_eq_false_iff_ne]; omega
  have n9 : (x.op == 9) = false := by rw [beq_eq_false_iff_ne]; omega
  have n10 : (x.op == 10) = false := by rw [beq_eq_false_iff_ne]; omega
  have n11 : (x.op == 11) = false := by rw [beq_eq_false_iff_ne]; omega
  have n12 : (x.op == 12) = false := by rw [beq_eq_false_iff_ne]; omega
  have n13 : (x.op == 13) = false := by rw [beq_eq_false_iff_ne]; omega
  have n14 : (x.op == 14) = false := by rw [beq_eq_false_iff_ne]; omega
  have n15 : (x.op == 15) = false := by rw [beq_eq_false_iff_ne]; omega
  have n16 : (x.op == 16) = false := by rw [beq_eq_false_iff_ne]; omega
  have n17 : (x.op == 17) = false := by rw [beq_eq_false_iff_ne]; omega
  have n18 : (x.op == 18) = false := by rw [beq_eq_false_iff_ne]; omega
  have n19 : (x.op == 19) = false := by rw [beq_eq_false_iff_ne]; omega
  have n20 : (x.op == 20) = false := by rw [beq_eq_false_iff_ne]; omega
  have n21 : (x.op == 21) = false := by rw [beq_eq_false_iff_ne]; omega
  have n22 : (x.op == 22) = false := by rw [beq_eq_false_iff_ne]; omega
  have n23 : (x.op == 23) = false := by rw [beq_eq_false_iff_ne]; omega
  have n24 : (x.op == 24) = false := by rw [beq_eq_false_iff_ne]; omega
  have n25 : (x.op == 25) = false := by rw [beq_eq_false_iff_ne]; omega
  clear h hc
  go_enter Try.func37, Try.ntmps37
  go_upto_region 1 with (fail)
  go_cut [3] from 4 to 17 (fun s3 wx => s3 = .bool (stB x.nm x.ar) ∧ wx = w.alloc (.cells #[.int .i64 x.op, .int .i64 x.r, .int .i64 x.a, .int .i64 x.n, .string x.nm, .int .i64 x.ar] 23))
  case first =>
    go_wp2_with fail
    all_goals go_meet
    all_goals exact ⟨congrArg Value.bool (by first | (simp [stB, nmOk, *]; done) | (simp [stB, nmOk, *]; omega)), rfl⟩
  case rest =>
    obtain ⟨rfl, rfl⟩ := hcut
    go_wp2_with fail
    all_goals go_ret
    all_goals refine ⟨ret_bool ?_, bAlloc _ _⟩
    all_goals rw [HE.out]
theorem rformed_any (x : In) (w : World) : Calls Try.prog 37 #[x.v] w fun e w' => e = .returned (.bool (fo x)) ∧ Below w.heap.size w w' := by
  cases h : okOp x.op with
  | false => exact rformedOut x h w
  | true =>
    obtain ⟨op, r, a, n, nm, ar⟩ := x
    rcases op_cases h with h1 | h1 | h1 | h1 | h1 | h1 | h1 | h1 | h1 | h1 | h1 | h1 | h1 | h1 | h1 | h1 | h1 | h1 | h1 | h1 | h1 | h1 | h1 | h1 | h1
    · have h2 : op = 1 := h1
      subst h2; exact rformed1 r a n nm ar w
    · have h2 : op = 2 := h1
      subst h2; exact rformed2 r a n nm ar w
    · have h2 : op = 3 := h1
      subst h2; exact rformed3 r a n nm ar w
    · have h2 : op = 4 := h1
      subst h2; exact rformed4 r a n nm ar w
    · have h2 : op = 5 := h1
      subst h2; exact rformed5 r a n nm ar w
    · have h2 : op = 6 := h1
      subst h2; exact rformed6 r a n nm ar w
    · have h2 : op = 7 := h1
      subst h2; exact rformed7 r a n nm ar w
    · have h2 : op = 8 := h1
      subst h2; exact rformed8 r a n nm ar w
    · have h2 : op = 9 := h1
      subst h2; exact rformed9 r a n nm ar w
    · have h2 : op = 10 := h1
      subst h2; exact rformed10 r a n nm ar w
    · have h2 : op = 11 := h1
      subst h2; exact rformed11 r a n nm ar w
    · have h2 : op = 12 := h1
      subst h2; exact rformed12 r a n nm ar w
    · have h2 : op = 13 := h1
      subst h2; exact rformed13 r a n nm ar w
    · have h2 : op = 14 := h1
      subst h2; exact rformed14 r a n nm ar w
    · have h2 : op = 15 := h1
      subst h2; exact rformed15 r a n nm ar w
    · have h2 : op = 16 := h1
      subst h2; exact rformed16 r a n nm ar w
    · have h2 : op = 17 := h1
      subst h2; exact rformed17 r a n nm ar w
    · have h2 : op = 18 := h1
      subst h2; exact rformed18 r a n nm ar w
    · have h2 : op = 19 := h1
      subst h2; exact rformed19 r a n nm ar w
    · have h2 : op = 20 := h1
      subst h2; exact rformed20 r a n nm ar w
    · have h2 : op = 21 := h1
      subst h2; exact rformed21 r a n nm ar w
    · have h2 : op = 22 := h1
      subst h2; exact rformed22 r a n nm ar w
    · have h2 : op = 23 := h1
      subst h2; exact rformed23 r a n nm ar w
    · have h2 : op = 24 := h1
      subst h2; exact rformed24 r a n nm ar w
    · have h2 : op = 25 := h1
      subst h2; exact rformed25 r a n nm ar w
end Go.Proofs.Yteffpeokialeiaa
