/-
  Walks: code.Reads, code.Writes.
-/
import Derived.Test.YteffpeokialeiaaAk
namespace Go.Proofs.Yteffpeokialeiaa
open Go.RowKit

theorem sh_rw (op : Int) : ((∀ c ∈ (sh op).2.2.1.data.toList, c = 114 ∨ c = 97 ∨ c = 112) ∧ (sh op).2.2.1.size ≤ 2) ∧ ((∀ c ∈ (sh op).2.2.2.data.toList, c = 114 ∨ c = 97 ∨ c = 112) ∧ (sh op).2.2.2.size ≤ 2) := by
  cases h : okOp op with
  | false => rw [sh_out h]; decide
  | true => rcases op_cases h with rfl | rfl | rfl | rfl | rfl | rfl | rfl | rfl | rfl | rfl | rfl | rfl | rfl | rfl | rfl | rfl | rfl | rfl | rfl | rfl | rfl | rfl | rfl | rfl | rfl <;> decide
theorem OwnL.later {w w1 w2 : World} {v : Value} {l : List Int} (hb : Below w.heap.size w w1) (h : OwnL w1 w2 v l) : OwnL w w2 v l := ⟨own_base h.1 hb.size, bNext hb h.2⟩
set_option maxHeartbeats 400000 in
theorem reads_any (x : In) (w : World) : Calls Try.prog 21 #[x.v] w (RetInts w (rdOf x)) := by
  have HS := Lib.hid (sh_rw x.op).1
  go_enter Try.func21, Try.ntmps21
  go_wp2_with fail
  refine (shapeOf_any _ _).mono ?_
  rintro e w1 ⟨rfl, hb⟩
  have hx1 := (BoxI.new w x).next hb
  have HB := Lib.hid (bStart hb)
  have hz : w.heap.size < w1.heap.size := by have := hb.size; simp at this; omega
  clear hb
  obtain ⟨q0, q1, q2, q3, q4, q5⟩ := BoxI.cells hx1
  clear hx1
  go_wp2_with fail
  refine (registers_any _ _ _ HS.out.1 HS.out.2).mono ?_
  rintro e w2 ⟨v, rfl, ho⟩
  have HO := Lib.hid (ho.later (HB.out.alloc (Nat.le_of_lt hz) _))
  clear ho
  go_wp2_with fail
  go_ret
  exact ⟨_, rfl, HO.out⟩
set_option maxHeartbeats 400000 in
theorem writes_any (x : In) (w : World) : Calls Try.prog 22 #[x.v] w (RetInts w (wrOf x)) := by
  have HS := Lib.hid (sh_rw x.op).2
  go_enter Try.func22, Try.ntmps22
  go_wp2_with fail
  refine (shapeOf_any _ _).mono ?_
  rintro e w1 ⟨rfl, hb⟩
  have hx1 := (BoxI.new w x).next hb
  have HB := Lib.hid (bStart hb)
  have hz : w.heap.size < w1.heap.size := by have := hb.size; simp at this; omega
  clear hb
  obtain ⟨q0, q1, q2, q3, q4, q5⟩ := BoxI.cells hx1
  clear hx1
  go_wp2_with fail
  refine (registers_any _ _ _ HS.out.1 HS.out.2).mono ?_
  rintro e w2 ⟨v, rfl, ho⟩
  have HO := Lib.hid (ho.later (HB.out.alloc (Nat.le_of_lt hz) _))
  clear ho
  go_wp2_with fail
  go_ret
  exact ⟨_, rfl, HO.out⟩
end Go.Proofs.Yteffpeokialeiaa
