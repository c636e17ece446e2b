/-
  The walk of SameEnv at equal environments.
-/
import Derived.Test.YtpkpffnabcgcbaaFo
namespace Go.Proofs.Ytpkpffnabcgcbaa
open Go.RowKit

/-- an environment as one value -/
@[reducible] def enV (x : En) (A : Option Addr) (c : Nat) : Value := .agg #[.int .i64 x.prev, .int .i64 x.id, .int .i64 x.pc, .slice A x.y.length c]
set_option maxHeartbeats 2000000 in
theorem sameEnv_any {A A' : Option Addr} {c c' : Nat} (x : En) (w : World) (h : CellsAt w A x.y) (h' : CellsAt w A' x.y) (hn : x.y.length ≤ 8796093022208) :
    Calls Try.prog 39 #[enV x A c, enV x A' c'] w fun e w' => e = .returned (.bool true) ∧ Below w.heap.size w w' := by
  obtain ⟨W, HW⟩ : ∃ X, Hid (X = (w.alloc (.cells #[.int .i64 x.prev, .int .i64 x.id, .int .i64 x.pc, .slice A x.y.length c] 54)).alloc (.cells #[.int .i64 x.prev, .int .i64 x.id, .int .i64 x.pc, .slice A' x.y.length c'] 54)) := ⟨_, rfl⟩
  have hbW : Below w.heap.size w W := by rw [HW.out]; exact (bAlloc w _).alloc (by simp) _
  have hk0 : Blk W w.heap.size 54 #[.int .i64 x.prev, .int .i64 x.id, .int .i64 x.pc, .slice A x.y.length c] := by rw [HW.out]; exact (Blk.new w _ _).alloc _
  have hk1 : Blk W (w.heap.size + 1) 54 #[.int .i64 x.prev, .int .i64 x.id, .int .i64 x.pc, .slice A' x.y.length c'] := by
    have h := Blk.new (w.alloc (.cells #[.int .i64 x.prev, .int .i64 x.id, .int .i64 x.pc, .slice A x.y.length c] 54)) 54 #[.int .i64 x.prev, .int .i64 x.id, .int .i64 x.pc, .slice A' x.y.length c']
    rw [World.size_alloc] at h
    rw [HW.out]; exact h
  have HC := Lib.hid (sameCells_any (c := c) (c' := c') x.y W (h.next hbW) (h'.next hbW) hn)
  have HB := Lib.hid hbW
  have y0 := hk0.cell 0
  have y1 := hk0.cell 1
  have y2 := hk0.cell 2
  have y3 := hk0.cell 3
  have z0 := hk1.cell 0
  have z1 := hk1.cell 1
  have z2 := hk1.cell 2
  have z3 := hk1.cell 3
  simp at y0 y1 y2 y3 z0 z1 z2 z3
  clear h h' hbW hk0 hk1
  go_enter Try.func39, Try.ntmps39
  go_upto_region 1 with fail
  rw [← HW.out]
  clear HW
  go_wp2_with fail
  refine HC.out.mono ?_
  rintro e w1 ⟨rfl, hb1⟩
  have HB1 := Lib.hid (bNext HB.out hb1)
  clear hb1 HC y0 y1 y2 y3 z0 z1 z2 z3
  go_wp2_with fail
  go_ret
  exact ⟨rfl, HB1.out⟩
end Go.Proofs.Ytpkpffnabcgcbaa
