/-
  Walk: Parse of a text of any length.
-/
import Derived.Test.YtbipeakinmbdiaaGreatDoorKt
namespace Go.Proofs.YtbipeakinmbdiaaGreatDoor
open Go.RowKit

set_option maxRecDepth 100000 in
set_option maxHeartbeats 1000000 in
theorem parse_long (t : List UInt8) (w : World) (h1 : 16384 < t.length) : Calls Tryz.prog 18 #[.string (S t)] w (PsR w t) := by
  have hsz := S_size t
  obtain ⟨B, hB⟩ : ∃ q, Hid (q = w.heap.size) := ⟨_, rfl⟩
  obtain ⟨w0, hw0⟩ : ∃ X, Hid (X = w.alloc (.cells (bkC zBk none 0 0) 28)) := ⟨_, rfl⟩
  have HB0 := Lib.hid (show Blk w0 B 28 (bkC zBk none 0 0) by rw [hw0.out, hB.out]; exact Blk.new _ _ _)
  have HK0 := Lib.hid (show Below w.heap.size w w0 by rw [hw0.out]; exact bAlloc _ _)
  go_enter Tryz.func18, Tryz.ntmps18
  go_upto_region 1 with fail
  rw [show w.alloc (.cells #[.int .i64 0, .string ⟨#[]⟩, .int .i64 0, .int .i64 0, .int .i64 0, .int .i64 0, .string ⟨#[]⟩, .int .i64 0, .slice none 0 0] 28) = w0 from hw0.out.symm, ← hB.out]
  clear hw0
  have HPV := Lib.hid (show parseV t = (zBk, 0, 2) by unfold parseV; rw [if_pos h1])
  have q1 : decide (16384 < (t.length : Int)) = true := by simp; omega
  clear h1
  have b0 := HB0.out.cell 0
  have b1 := HB0.out.cell 1
  have b2 := HB0.out.cell 2
  have b3 := HB0.out.cell 3
  have b4 := HB0.out.cell 4
  have b5 := HB0.out.cell 5
  have b6 := HB0.out.cell 6
  have b7 := HB0.out.cell 7
  have b8 := HB0.out.cell 8
  have f0 := HB0.out.frozen 0
  have f1 := HB0.out.frozen 1
  have f2 := HB0.out.frozen 2
  have f3 := HB0.out.frozen 3
  have f4 := HB0.out.frozen 4
  have f5 := HB0.out.frozen 5
  have f6 := HB0.out.frozen 6
  have f7 := HB0.out.frozen 7
  have f8 := HB0.out.frozen 8
  have bl8 := HB0.out.lt
  simp at b0 b1 b2 b3 b4 b5 b6 b7 b8
  go_wp2_with fail
  obtain ⟨wz, hwz⟩ : ∃ X, Hid (X = ((((((((w0.setCell ⟨B, 0, none⟩ (.int .i64 0)).setCell ⟨B, 1, none⟩ (.string ⟨#[]⟩)).setCell ⟨B, 2, none⟩ (.int .i64 0)).setCell ⟨B, 3, none⟩ (.int .i64 0)).setCell ⟨B, 4, none⟩ (.int .i64 0)).setCell ⟨B, 5, none⟩ (.int .i64 0)).setCell ⟨B, 6, none⟩ (.string ⟨#[]⟩)).setCell ⟨B, 7, none⟩ (.int .i64 0)).setCell ⟨B, 8, none⟩ (.slice none 0 0)) := ⟨_, rfl⟩
  rw [← hwz.out]
  have HBZ := Lib.hid (show Blk wz B 28 (bkC zBk none 0 0) by
    rw [hwz.out]
    have h := ((((((((HB0.out.set_ 0 (.int .i64 0)).set_ 1 (.string ⟨#[]⟩)).set_ 2 (.int .i64 0)).set_ 3 (.int .i64 0)).set_ 4 (.int .i64 0)).set_ 5 (.int .i64 0)).set_ 6 (.string ⟨#[]⟩)).set_ 7 (.int .i64 0)).set_ 8 (.slice none 0 0)
    simpa using h)
  have HKZ := Lib.hid (show Below w.heap.size w wz by
    have hh : w.heap.size ≤ B := by rw [hB.out]; exact Nat.le_refl _
    rw [hwz.out]
    exact ((((((((HK0.out.setCell hh _).setCell hh _).setCell hh _).setCell hh _).setCell hh _).setCell hh _).setCell hh _).setCell hh _).setCell hh _)
  clear b0 b1 b2 b3 b4 b5 b6 b7 b8 f0 f1 f2 f3 f4 f5 f6 f7 f8 bl8
  clear hwz
  have b0 := HBZ.out.cell 0
  have b1 := HBZ.out.cell 1
  have b2 := HBZ.out.cell 2
  have b3 := HBZ.out.cell 3
  have b4 := HBZ.out.cell 4
  have b5 := HBZ.out.cell 5
  have b6 := HBZ.out.cell 6
  have b7 := HBZ.out.cell 7
  have b8 := HBZ.out.cell 8
  have f0 := HBZ.out.frozen 0
  have f1 := HBZ.out.frozen 1
  have f2 := HBZ.out.frozen 2
  have f3 := HBZ.out.frozen 3
  have f4 := HBZ.out.frozen 4
  have f5 := HBZ.out.frozen 5
  have f6 := HBZ.out.frozen 6
  have f7 := HBZ.out.frozen 7
  have f8 := HBZ.out.frozen 8
  have bl8 := HBZ.out.lt
  simp at b0 b1 b2 b3 b4 b5 b6 b7 b8
  refine bodyPost_ret (v := .tuple #[zBk.v none 0, .int .i64 0, .int .i64 2]) (by simp only [results, Tryz.results18]; go_simp) rfl ?_
  exact ⟨none, 0, 0, by rw [HPV.out] <;> rfl, by rw [HPV.out] <;> rfl, by rw [HPV.out]; exact World.ownsRow_nil _ _ _ _, HKZ.out⟩
theorem parse_all (t : List UInt8) (w : World) (h : Env w) : Calls Tryz.prog 18 #[.string (S t)] w (PsR w t) := by
  by_cases h1 : 16384 < t.length
  · exact parse_long t w h1
  · exact parse_any t w h (by omega)
end Go.Proofs.YtbipeakinmbdiaaGreatDoor
