/-
  Walks: the table of the opcodes.
-/
import Derived.Test.YteffpeokialeiaaAa
import Derived.Test.YteffpeokialeiaaChecked
import Derived.Deep.WholeRow
import Derived.Deep.DeepCutAuto
namespace Go.Proofs.Yteffpeokialeiaa
open Go.RowKit

theorem wpList_val {P : Program} {ops : Array Oper} {Q : Exit → Act → World → Prop} {o : Oper} {rest : List Oper} {a : Act} {w : World} (v : Value) (hgd : o.guard = none)
    (h : (execOp a.eval o).run P w = .ok (.value v) w) (k : wpList P ops Q rest (a.put o.dst v) w) : wpList P ops Q (o :: rest) a w :=
  wpList_plain hgd fun _ hK => by unfold Oper.wp; rw [h]; exact hK _ _ k
theorem wpList_skip {P : Program} {ops : Array Oper} {Q : Exit → Act → World → Prop} {o : Oper} {rest : List Oper} {a : Act} {w : World} (w' : World) (hgd : o.guard = none)
    (h : (execOp a.eval o).run P w = .ok .skip w') (k : wpList P ops Q rest (a.put o.dst undef) w') : wpList P ops Q (o :: rest) a w :=
  wpList_plain hgd fun _ hK => by unfold Oper.wp; rw [h]; exact hK _ _ k

theorem wpList_store_new {P : Program} {ops : Array Oper} {Q : Exit → Act → World → Prop} {o : Oper} {rest : List Oper} {a : Act} {w : World} (ty : TypeId) (x y : Operand) (ho : o.op = .store ty x y)
    (hgd : o.guard = none) (c c' : Array Value) (hx : a.eval x = .pointer (some ⟨w.heap.size, 0, none⟩)) (hy : a.eval y = .agg c') (hi : (P.info? ty).map (·.size) = some c'.size) (hc : c.size = c'.size)
    (h1 : c'.all (·.oneCell') = true) (k : wpList P ops Q rest (a.put o.dst undef) (w.alloc (.cells c' ty))) : wpList P ops Q (o :: rest) a (w.alloc (.cells c ty)) :=
  wpList_skip _ hgd (by
    unfold execOp
    simp only [ho, hx, hy, run_storeAt_new w ty c c' hi hc h1, Sem.run_bind, Sem.run_pure, Result.andThen_ok]) k

/-- the table: a name, fields, what is read, what is written -/
def shapeL : List (ByteArray × ByteArray × ByteArray × ByteArray) := [
  (⟨#[]⟩, ⟨#[]⟩, ⟨#[]⟩, ⟨#[]⟩),
  (⟨#[103, 101, 116, 95, 118, 97, 114]⟩, ⟨#[114, 97]⟩, ⟨#[97]⟩, ⟨#[114]⟩),
  (⟨#[103, 101, 116, 95, 118, 97, 108]⟩, ⟨#[114, 97]⟩, ⟨#[114, 97]⟩, ⟨#[]⟩),
  (⟨#[103, 101, 116, 95, 105, 110, 116]⟩, ⟨#[97, 110]⟩, ⟨#[97]⟩, ⟨#[]⟩),
  (⟨#[103, 101, 116, 95, 97, 116, 111, 109]⟩, ⟨#[97, 115]⟩, ⟨#[97]⟩, ⟨#[]⟩),
  (⟨#[103, 101, 116, 95, 115, 116, 114, 117, 99, 116]⟩, ⟨#[97, 102]⟩, ⟨#[97]⟩, ⟨#[]⟩),
  (⟨#[97, 114, 103, 95, 118, 97, 114]⟩, ⟨#[114]⟩, ⟨#[]⟩, ⟨#[114]⟩),
  (⟨#[97, 114, 103, 95, 118, 97, 108]⟩, ⟨#[114]⟩, ⟨#[114]⟩, ⟨#[]⟩),
  (⟨#[97, 114, 103, 95, 105, 110, 116]⟩, ⟨#[110]⟩, ⟨#[]⟩, ⟨#[]⟩),
  (⟨#[97, 114, 103, 95, 97, 116, 111, 109]⟩, ⟨#[115]⟩, ⟨#[]⟩, ⟨#[]⟩),
  (⟨#[97, 114, 103, 95, 118, 111, 105, 100]⟩, ⟨#[118]⟩, ⟨#[]⟩, ⟨#[]⟩),
  (⟨#[112, 117, 116, 95, 118, 97, 114]⟩, ⟨#[114, 97]⟩, ⟨#[]⟩, ⟨#[114, 97]⟩),
  (⟨#[112, 117, 116, 95, 118, 97, 108]⟩, ⟨#[114, 97]⟩, ⟨#[114]⟩, ⟨#[97]⟩),
  (⟨#[112, 117, 116, 95, 105, 110, 116]⟩, ⟨#[97, 110]⟩, ⟨#[]⟩, ⟨#[97]⟩),
  (⟨#[112, 117, 116, 95, 97, 116, 111, 109]⟩, ⟨#[97, 115]⟩, ⟨#[]⟩, ⟨#[97]⟩),
  (⟨#[112, 117, 116, 95, 115, 116, 114, 117, 99, 116]⟩, ⟨#[114, 102]⟩, ⟨#[]⟩, ⟨#[114]⟩),
  (⟨#[97, 108, 108, 111, 99, 97, 116, 101]⟩, ⟨#[99]⟩, ⟨#[]⟩, ⟨#[]⟩),
  (⟨#[116, 114, 105, 109]⟩, ⟨#[99]⟩, ⟨#[]⟩, ⟨#[]⟩),
  (⟨#[102, 114, 101, 101]⟩, ⟨#[]⟩, ⟨#[]⟩, ⟨#[]⟩),
  (⟨#[99, 97, 108, 108]⟩, ⟨#[112]⟩, ⟨#[112]⟩, ⟨#[]⟩),
  (⟨#[101, 120, 101, 99, 117, 116, 101]⟩, ⟨#[112]⟩, ⟨#[112]⟩, ⟨#[]⟩),
  (⟨#[112, 114, 111, 99, 101, 101, 100]⟩, ⟨#[]⟩, ⟨#[]⟩, ⟨#[]⟩),
  (⟨#[108, 101, 118, 101, 108]⟩, ⟨#[114]⟩, ⟨#[]⟩, ⟨#[114]⟩),
  (⟨#[109, 97, 114, 107]⟩, ⟨#[114]⟩, ⟨#[]⟩, ⟨#[114]⟩),
  (⟨#[99, 117, 116]⟩, ⟨#[114]⟩, ⟨#[114]⟩, ⟨#[]⟩),
  (⟨#[102, 97, 105, 108]⟩, ⟨#[]⟩, ⟨#[]⟩, ⟨#[]⟩)]
/-- an opcode's row -/
def sh (op : Int) : ByteArray × ByteArray × ByteArray × ByteArray := if 1 ≤ op then shapeL.getD op.toNat (⟨#[]⟩, ⟨#[]⟩, ⟨#[]⟩, ⟨#[]⟩) else (⟨#[]⟩, ⟨#[]⟩, ⟨#[]⟩, ⟨#[]⟩)
@[reducible] def shV (op : Int) : Value := .agg #[.string (sh op).1, .string (sh op).2.1, .string (sh op).2.2.1, .string (sh op).2.2.2]
def tabL : List (ByteArray × ByteArray × ByteArray × ByteArray) → List Value
  | [] => []
  | x :: l => .string x.1 :: .string x.2.1 :: .string x.2.2.1 :: .string x.2.2.2 :: tabL l
def tabA : Array Value := (tabL shapeL).toArray
theorem tab_all : tabA.all (·.oneCell') = true := by kernel_rfl
theorem zv75 (w : World) : (zeroValue 75).run Try.prog w = .ok (.agg (Array.replicate 104 (.string ⟨#[]⟩))) w := by kernel_rfl
theorem info75 : (Try.prog.info? 75).map (·.size) = some 104 := by kernel_rfl
set_option maxRecDepth 100000 in
theorem tab_size : tabA.size = 104 := by kernel_rfl
theorem under75 : ∃ n e, Try.prog.underlying 75 = some (.array n e) := ⟨26, 53, by kernel_rfl⟩
theorem results50 : Try.f50.results = #[.cell 0 75] := by kernel_rfl
set_option maxHeartbeats 1000000 in
set_option maxRecDepth 100000 in
theorem shapes_any (w : World) : Calls Try.prog 50 #[] w fun e w' => e = .returned (.agg tabA) ∧ Below w.heap.size w w' := by
  have h0 := zv75
  go_enter Try.func50, Try.ntmps50
  go_upto_region 1 with (fail)
  refine wp_region_lit ?_
  refine wpList_val (.agg #[.string ⟨#[103, 101, 116, 95, 118, 97, 114]⟩, .string ⟨#[114, 97]⟩, .string ⟨#[97]⟩, .string ⟨#[114]⟩]) rfl (by kernel_rfl) ?_
  refine wpList_val (.agg #[.string ⟨#[103, 101, 116, 95, 118, 97, 108]⟩, .string ⟨#[114, 97]⟩, .string ⟨#[114, 97]⟩, .string ⟨#[]⟩]) rfl (by kernel_rfl) ?_
  refine wpList_val (.agg #[.string ⟨#[103, 101, 116, 95, 105, 110, 116]⟩, .string ⟨#[97, 110]⟩, .string ⟨#[97]⟩, .string ⟨#[]⟩]) rfl (by kernel_rfl) ?_
  refine wpList_val (.agg #[.string ⟨#[103, 101, 116, 95, 97, 116, 111, 109]⟩, .string ⟨#[97, 115]⟩, .string ⟨#[97]⟩, .string ⟨#[]⟩]) rfl (by kernel_rfl) ?_
  refine wpList_val (.agg #[.string ⟨#[103, 101, 116, 95, 115, 116, 114, 117, 99, 116]⟩, .string ⟨#[97, 102]⟩, .string ⟨#[97]⟩, .string ⟨#[]⟩]) rfl (by kernel_rfl) ?_
  refine wpList_val (.agg #[.string ⟨#[97, 114, 103, 95, 118, 97, 114]⟩, .string ⟨#[114]⟩, .string ⟨#[]⟩, .string ⟨#[114]⟩]) rfl (by kernel_rfl) ?_
  refine wpList_val (.agg #[.string ⟨#[97, 114, 103, 95, 118, 97, 108]⟩, .string ⟨#[114]⟩, .string ⟨#[114]⟩, .string ⟨#[]⟩]) rfl (by kernel_rfl) ?_
  refine wpList_val (.agg #[.string ⟨#[97, 114, 103, 95, 105, 110, 116]⟩, .string ⟨#[110]⟩, .string ⟨#[]⟩, .string ⟨#[]⟩]) rfl (by kernel_rfl) ?_
  refine wpList_val (.agg #[.string ⟨#[97, 114, 103, 95, 97, 116, 111, 109]⟩, .string ⟨#[115]⟩, .string ⟨#[]⟩, .string ⟨#[]⟩]) rfl (by kernel_rfl) ?_
  refine wpList_val (.agg #[.string ⟨#[97, 114, 103, 95, 118, 111, 105, 100]⟩, .string ⟨#[118]⟩, .string ⟨#[]⟩, .string ⟨#[]⟩]) rfl (by kernel_rfl) ?_
  refine wpList_val (.agg #[.string ⟨#[112, 117, 116, 95, 118, 97, 114]⟩, .string ⟨#[114, 97]⟩, .string ⟨#[]⟩, .string ⟨#[114, 97]⟩]) rfl (by kernel_rfl) ?_
  refine wpList_val (.agg #[.string ⟨#[112, 117, 116, 95, 118, 97, 108]⟩, .string ⟨#[114, 97]⟩, .string ⟨#[114]⟩, .string ⟨#[97]⟩]) rfl (by kernel_rfl) ?_
  refine wpList_val (.agg #[.string ⟨#[112, 117, 116, 95, 105, 110, 116]⟩, .string ⟨#[97, 110]⟩, .string ⟨#[]⟩, .string ⟨#[97]⟩]) rfl (by kernel_rfl) ?_
  refine wpList_val (.agg #[.string ⟨#[112, 117, 116, 95, 97, 116, 111, 109]⟩, .string ⟨#[97, 115]⟩, .string ⟨#[]⟩, .string ⟨#[97]⟩]) rfl (by kernel_rfl) ?_
  refine wpList_val (.agg #[.string ⟨#[112, 117, 116, 95, 115, 116, 114, 117, 99, 116]⟩, .string ⟨#[114, 102]⟩, .string ⟨#[]⟩, .string ⟨#[114]⟩]) rfl (by kernel_rfl) ?_
  refine wpList_val (.agg #[.string ⟨#[97, 108, 108, 111, 99, 97, 116, 101]⟩, .string ⟨#[99]⟩, .string ⟨#[]⟩, .string ⟨#[]⟩]) rfl (by kernel_rfl) ?_
  refine wpList_val (.agg #[.string ⟨#[116, 114, 105, 109]⟩, .string ⟨#[99]⟩, .string ⟨#[]⟩, .string ⟨#[]⟩]) rfl (by kernel_rfl) ?_
  refine wpList_val (.agg #[.string ⟨#[102, 114, 101, 101]⟩, .string ⟨#[]⟩, .string ⟨#[]⟩, .string ⟨#[]⟩]) rfl (by kernel_rfl) ?_
  refine wpList_val (.agg #[.string ⟨#[99, 97, 108, 108]⟩, .string ⟨#[112]⟩, .string ⟨#[112]⟩, .string ⟨#[]⟩]) rfl (by kernel_rfl) ?_
  refine wpList_val (.agg #[.string ⟨#[101, 120, 101, 99, 117, 116, 101]⟩, .string ⟨#[112]⟩, .string ⟨#[112]⟩, .string ⟨#[]⟩]) rfl (by kernel_rfl) ?_
  refine wpList_val (.agg #[.string ⟨#[112, 114, 111, 99, 101, 101, 100]⟩, .string ⟨#[]⟩, .string ⟨#[]⟩, .string ⟨#[]⟩]) rfl (by kernel_rfl) ?_
  refine wpList_val (.agg #[.string ⟨#[108, 101, 118, 101, 108]⟩, .string ⟨#[114]⟩, .string ⟨#[]⟩, .string ⟨#[114]⟩]) rfl (by kernel_rfl) ?_
  refine wpList_val (.agg #[.string ⟨#[109, 97, 114, 107]⟩, .string ⟨#[114]⟩, .string ⟨#[]⟩, .string ⟨#[114]⟩]) rfl (by kernel_rfl) ?_
  refine wpList_val (.agg #[.string ⟨#[99, 117, 116]⟩, .string ⟨#[114]⟩, .string ⟨#[114]⟩, .string ⟨#[]⟩]) rfl (by kernel_rfl) ?_
  refine wpList_val (.agg #[.string ⟨#[102, 97, 105, 108]⟩, .string ⟨#[]⟩, .string ⟨#[]⟩, .string ⟨#[]⟩]) rfl (by kernel_rfl) ?_
  refine wpList_val (.agg tabA) rfl (by kernel_rfl) ?_
  refine wpList_store_new 75 (.tmp 0) (.tmp 26) rfl rfl _ tabA (by kernel_rfl) (by kernel_rfl) (by rw [tab_size]; exact info75) (by rw [tab_size]; exact Array.size_replicate) tab_all ?_
  rename_i K hK
  refine hK _ _ ?_
  refine wp_ret ?_
  refine bodyPost_ret (v := .agg tabA) ?_ ?_ ?_
  rotate_left
  · rfl
  · exact ⟨rfl, bAlloc _ _⟩
  exact (results_cell_row results50 _ _ w.heap.size 75 tabA (0, 0) (.array 26 53) (by kernel_rfl) (heap_alloc_new w _) (by kernel_rfl) rfl (by rw [tab_size]; exact info75))
/-- a row out of the table -/
theorem tab_at (op : Int) (h1 : 1 ≤ op) (h2 : op ≤ 25) (w : World) : (Instr.index 75 (.agg tabA) (.int .i64 op)).run Try.prog w = .ok (shV op) w := by
  have hc : op = 1 ∨ op = 2 ∨ op = 3 ∨ op = 4 ∨ op = 5 ∨ op = 6 ∨ op = 7 ∨ op = 8 ∨ op = 9 ∨ op = 10 ∨ op = 11 ∨ op = 12 ∨ op = 13 ∨ op = 14 ∨ op = 15 ∨ op = 16 ∨ op = 17 ∨ op = 18 ∨ op = 19 ∨ op = 20 ∨ op = 21 ∨ op = 22 ∨ op = 23 ∨ op = 24 ∨ op = 25 := by omega
  rcases hc with rfl | rfl | rfl | rfl | rfl | rfl | rfl | rfl | rfl | rfl | rfl | rfl | rfl | rfl | rfl | rfl | rfl | rfl | rfl | rfl | rfl | rfl | rfl | rfl | rfl <;> (show Sem.run _ _ _ = Result.ok _ _; kernel_rfl)
end Go.Proofs.Yteffpeokialeiaa
