/-
  Walks: the deferred closure of catch, entered by a frame that returns and by one that panics.
-/
import Derived.Test.YtcagaaacfcpoeaaGreatCk
import Derived.WalkKit
import Derived.Defers
import Derived.Recover
namespace Go.Proofs.YtcagaaacfcpoeaaGreat
open Go.RowKit

theorem run_assert_nil (w : World) : (Instr.typeAssert Value.nilIface 20 65 true).run Tryz.prog w = .ok (.tuple #[.agg #[.int .i64 0, .int .i64 0, .string .empty, .slice none 0 0], .bool false]) w := by kernel_rfl
theorem run_assert_raised (v : Value) (w : World) : (Instr.typeAssert (Value.iface 65 v) 20 65 true).run Tryz.prog w = .ok (.tuple #[v, .bool true]) w := by kernel_rfl
set_option maxHeartbeats 2000000 in
theorem catch43_idle (p q : Addr) (w : World) :
    CallsD Tryz.prog 59 #[.pointer (some p), .pointer (some q)] .returning w fun e u' w' => e = .returned (.tuple #[]) ∧ u' = .returning ∧ Below w.heap.size w w' := by
  refine callsD_of_wpS Tryz.func59 rfl fun c₀ cs hu => ?_
  show Code.wpS Tryz.prog _ _ { tmps := #[.pointer (some p), .pointer (some q), undef, undef, undef, undef, undef, undef, undef, undef, undef, undef, undef, undef, undef, undef, undef], defers := [] } _ _
  apply wpS_seq
  apply wpS_region
  simp [wpOpsS, go_sem, recoverD, hu, Exit.thenS]
  refine wpS_of_wp ?_
  have hA := run_assert_nil
  go_wp2
  refine ⟨rfl, .returning, ?_, .tuple #[], by simp [results, Tryz.results59, go_sem], rfl, rfl, ?_⟩
  · cases c₀
    simp only at hu
    rw [hu]
  · repeat first | exact bAlloc _ _ | refine Below.setCell ?_ (by simp) _
set_option maxHeartbeats 2000000 in
theorem catch43_rec (p q : Nat) (t : Tm) (A : Option Addr) (c : Nat) (w : World) (hpq : p ≠ q) (hp : Blk w p 24 #[.int .i64 0, .int .i64 0, .string { data := #[] }, .slice none 0 0]) (hq : Blk w q 25 #[.int .i64 0]) :
    CallsD Tryz.prog 59 #[.pointer (some ⟨p, 0, none⟩), .pointer (some ⟨q, 0, none⟩)] (.panicking [{ v := .iface 65 (t.v A c), recovered := false }]) w fun e u' w' => e = .returned (.tuple #[]) ∧ u' = .panicking [{ v := .iface 65 (t.v A c), recovered := true }] ∧
      w' = (((((w.setCell ⟨p, 0, none⟩ (.int .i64 t.kind)).setCell ⟨p, 1, none⟩ (.int .i64 t.n)).setCell ⟨p, 2, none⟩ (.string t.name)).setCell ⟨p, 3, none⟩ (.slice A t.args.length c)).setCell ⟨q, 0, none⟩ (.int .i64 8)).alloc (.cells #[.int .i64 t.kind, .int .i64 t.n, .string t.name, .slice A t.args.length c] 65) := by
  refine callsD_of_wpS Tryz.func59 rfl fun c₀ cs hu => ?_
  show Code.wpS Tryz.prog _ _ { tmps := #[.pointer (some ⟨p, 0, none⟩), .pointer (some ⟨q, 0, none⟩), undef, undef, undef, undef, undef, undef, undef, undef, undef, undef, undef, undef, undef, undef, undef], defers := [] } _ _
  have r0 := hp.cell 0
  have r1 := hp.cell 1
  have r2 := hp.cell 2
  have r3 := hp.cell 3
  have s0 := hq.cell 0
  have f0 := hp.frozen 0
  have f1 := hp.frozen 1
  have f2 := hp.frozen 2
  have f3 := hp.frozen 3
  have g0 := hq.frozen 0
  have pl := hp.lt
  have ql := hq.lt
  simp at r0 r1 r2 r3 s0
  clear hp hq
  apply wpS_seq
  apply wpS_region
  simp [wpOpsS, go_sem, recoverD, hu, Exit.thenS]
  refine wpS_of_wp ?_
  have hA := run_assert_raised
  go_wp2
  refine ⟨rfl, .panicking [{ v := .iface 65 (t.v A c), recovered := true }], ?_, .tuple #[], ?_, ?_, ?_, ?_⟩
  · rfl
  · simp [results, Tryz.results59, go_sem]
  · rfl
  · rfl
  · rfl
end Go.Proofs.YtcagaaacfcpoeaaGreat
