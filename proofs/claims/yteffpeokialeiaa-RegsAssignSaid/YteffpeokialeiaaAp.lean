/-
  Walks: the reference's Reads, Writes.
-/
import Derived.Test.YteffpeokialeiaaAo
namespace Go.Proofs.Yteffpeokialeiaa
open Go.RowKit

theorem sh_strings (op : Int) : (sh op).2.2.1.data.toList ∈ [[], [114], [97], [114, 97], [(112 : UInt8)]] ∧ (sh op).2.2.2.data.toList ∈ [[], [114], [97], [114, 97], [(112 : UInt8)]] := by
  cases h : okOp op with
  | false => rw [sh_out h]; decide
  | true => rcases op_cases h with rfl | rfl | rfl | rfl | rfl | rfl | rfl | rfl | rfl | rfl | rfl | rfl | rfl | rfl | rfl | rfl | rfl | rfl | rfl | rfl | rfl | rfl | rfl | rfl | rfl <;> decide
theorem short97 (x : In) {L : List UInt8} (h : L ∈ [[], [114], [97], [114, 97], [(112 : UInt8)]]) (k : Nat) (hk : L[k]? = some 97) : ((L.take k).foldl (regStep x) []).length ≤ 1 := by
  simp only [List.mem_cons, List.not_mem_nil, or_false] at h
  rcases h with rfl | rfl | rfl | rfl | rfl
  · simp at hk
  · cases k with
    | zero => simp
    | succ k => simp at hk
  · cases k with
    | zero => simp
    | succ k => simp at hk
  · match k with
    | 0 => simp
    | 1 => show ([x.r] : List Int).length ≤ 1; simp
    | k + 2 => simp at hk
  · cases k with
    | zero => simp
    | succ k => simp at hk
set_option maxHeartbeats 400000 in
theorem Reads_any (x : In) (w : World) : Calls Try.prog 46 #[x.v] w (RetInts w (rdOf x)) := by
  have HS := Lib.hid (sh_rw x.op).1
  have HS2 := Lib.hid (short97 x (sh_strings x.op).1)
  go_enter Try.func46, Try.ntmps46
  go_wp2_with fail
  refine (shape_any _ _).mono ?_
  rintro e w1 ⟨rfl, hb⟩
  have hx1 := (BoxI.new w x).next hb
  have HB := Lib.hid (bStart hb)
  have hz : w.heap.size < w1.heap.size := by have := hb.size; simp at this; omega
  clear hb
  obtain ⟨q0, q1, q2, q3, q4, q5⟩ := BoxI.cells hx1
  clear hx1
  go_wp2_with fail
  refine (Registers_any _ _ _ HS.out.1 HS.out.2 HS2.out).mono ?_
  rintro e w2 ⟨v, rfl, ho⟩
  have HO := Lib.hid (ho.later (HB.out.alloc (Nat.le_of_lt hz) _))
  clear ho
  go_wp2_with fail
  go_ret
  exact ⟨_, rfl, HO.out⟩
set_option maxHeartbeats 400000 in
theorem Writes_any (x : In) (w : World) : Calls Try.prog 33 #[x.v] w (RetInts w (wrOf x)) := by
  have HS := Lib.hid (sh_rw x.op).2
  have HS2 := Lib.hid (short97 x (sh_strings x.op).2)
  go_enter Try.func33, Try.ntmps33
  go_wp2_with fail
  refine (shape_any _ _).mono ?_
  rintro e w1 ⟨rfl, hb⟩
  have hx1 := (BoxI.new w x).next hb
  have HB := Lib.hid (bStart hb)
  have hz : w.heap.size < w1.heap.size := by have := hb.size; simp at this; omega
  clear hb
  obtain ⟨q0, q1, q2, q3, q4, q5⟩ := BoxI.cells hx1
  clear hx1
  go_wp2_with fail
  refine (Registers_any _ _ _ HS.out.1 HS.out.2 HS2.out).mono ?_
  rintro e w2 ⟨v, rfl, ho⟩
  have HO := Lib.hid (ho.later (HB.out.alloc (Nat.le_of_lt hz) _))
  clear ho
  go_wp2_with fail
  go_ret
  exact ⟨_, rfl, HO.out⟩
end Go.Proofs.Yteffpeokialeiaa
