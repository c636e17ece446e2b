/-
  Walks: the row of an opcode; small tests on registers and predicates, both.
-/
import Derived.Test.YteffpeokialeiaaAb
import Derived.Outline
namespace Go.Proofs.Yteffpeokialeiaa
open Go.RowKit

def okOp (op : Int) : Bool := decide (1 ≤ op) && decide (op ≤ 25)
theorem zv53 (w : World) : (zeroValue 53).run Try.prog w = .ok (.agg #[.string ⟨#[]⟩, .string ⟨#[]⟩, .string ⟨#[]⟩, .string ⟨#[]⟩]) w := by kernel_rfl
theorem sh_out {op : Int} (h : okOp op = false) : sh op = (⟨#[]⟩, ⟨#[]⟩, ⟨#[]⟩, ⟨#[]⟩) := by
  unfold sh
  split
  · rename_i h1
    have : 25 < op := by simp [okOp, h1] at h; omega
    rw [List.getD_eq_getElem?_getD, List.getElem?_eq_none (show shapeL.length ≤ op.toNat by show 26 ≤ _; omega)]; rfl
  · rfl
set_option maxHeartbeats 400000 in
theorem shapeOf_any (op : Int) (w : World) : Calls Try.prog 35 #[.int .i64 op] w fun e w' => e = .returned (.tuple #[shV op, .bool (okOp op)]) ∧ Below w.heap.size w w' := by
  cases ho : okOp op with
  | false =>
    have HS := Lib.hid (sh_out ho)
    have hc : op < 1 ∨ 25 < op := by simp [okOp] at ho; omega
    clear ho
    go_enter Try.func35, Try.ntmps35
    rcases hc with hc | hc <;> go_wp2_with fail
    all_goals
      refine bodyPost_ret (v := .tuple #[.agg #[.string ⟨#[]⟩, .string ⟨#[]⟩, .string ⟨#[]⟩, .string ⟨#[]⟩], .bool false]) (by simp [results, Try.results35, go_sem]) rfl ⟨?_, ?_⟩
      · unfold shV; rw [HS.out]
      · exact bAlloc _ _
  | true =>
    have hc : 1 ≤ op ∧ op ≤ 25 := by simpa [okOp] using ho
    obtain ⟨h1, h2⟩ := hc
    have hx := tab_at op h1 h2
    have hd : decide (op < 1) = false := by simp; omega
    have hd2 : decide (25 < op) = false := by simp; omega
    clear ho
    go_enter Try.func35, Try.ntmps35
    go_wp2_with fail
    refine (shapes_any _).mono ?_
    rintro e w1 ⟨rfl, hb⟩
    obtain ⟨q0, q1⟩ := bcell hb
    have hz := hb.size
    go_wp2_with fail
    refine bodyPost_ret (v := .tuple #[shV op, .bool true]) (by simp [results, Try.results35, go_sem, q0]) rfl ⟨rfl, ?_⟩
    exact (((((bStart hb).setCell (Nat.le_refl _) _).setCell (Nat.le_refl _) _).setCell (Nat.le_refl _) _).setCell (Nat.le_refl _) _)
end Go.Proofs.Yteffpeokialeiaa
