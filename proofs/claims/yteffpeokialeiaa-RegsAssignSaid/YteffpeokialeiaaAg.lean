/-
  Walks: the reference's table of the opcodes.
-/
import Derived.Test.YteffpeokialeiaaAe
import Derived.Outline
namespace Go.Proofs.Yteffpeokialeiaa
open Go.RowKit

def tab2L : List (Int × ByteArray × ByteArray × ByteArray × ByteArray) → List Value
  | [] => []
  | x :: l => .int .i64 x.1 :: .string x.2.1 :: .string x.2.2.1 :: .string x.2.2.2.1 :: .string x.2.2.2.2 :: tab2L l
theorem tab2_at : ∀ {l : List (Int × ByteArray × ByteArray × ByteArray × ByteArray)} {i : Nat} {x}, l[i]? = some x →
    (tab2L l)[i * 5]? = some (.int .i64 x.1) ∧ (tab2L l)[i * 5 + 1]? = some (.string x.2.1) ∧ (tab2L l)[i * 5 + 2]? = some (.string x.2.2.1) ∧ (tab2L l)[i * 5 + 3]? = some (.string x.2.2.2.1) ∧ (tab2L l)[i * 5 + 4]? = some (.string x.2.2.2.2)
  | [], i, x, h => by simp at h
  | y :: l, 0, x, h => by simp at h; subst h; simp [tab2L]
  | y :: l, i + 1, x, h => by
    have := tab2_at (l := l) (i := i) (x := x) (by simpa using h)
    rw [show (i + 1) * 5 = i * 5 + 1 + 1 + 1 + 1 + 1 by omega]
    simpa [tab2L] using this
theorem wpList_val2 {P : Program} {ops : Array Oper} {Q : Exit → Act → World → Prop} {o : Oper} {rest : List Oper} {a : Act} {w : World} (v : Value) (w' : World) (hgd : o.guard = none)
    (h : (execOp a.eval o).run P w = .ok (.value v) w') (k : wpList P ops Q rest (a.put o.dst v) w') : wpList P ops Q (o :: rest) a w :=
  wpList_plain hgd fun _ hK => by unfold Oper.wp; rw [h]; exact hK _ _ k
/-- the rows with their numbers -/
def shape2L : List (Int × ByteArray × ByteArray × ByteArray × ByteArray) := (List.range 25).map fun i : Nat => ((i : Int) + 1, shapeL.getD (i + 1) (⟨#[]⟩, ⟨#[]⟩, ⟨#[]⟩, ⟨#[]⟩))
def tab2A : Array Value := (tab2L shape2L).toArray
theorem shape2_at {op : Int} (h1 : 1 ≤ op) (h2 : op ≤ 25) : shape2L[(op - 1).toNat]? = some (op, sh op) := by
  unfold shape2L sh
  rw [if_pos h1, List.getElem?_map, List.getElem?_range (by omega)]
  simp only [Option.map_some, Option.some.injEq, Prod.mk.injEq]
  exact ⟨by omega, by rw [show (op - 1).toNat + 1 = op.toNat by omega]⟩
set_option maxHeartbeats 1000000 in
set_option maxRecDepth 100000 in
theorem Shapes_any (w : World) : Calls Try.prog 61 #[] w fun e w' => e = .returned (.slice (some ⟨w.heap.size, 0, none⟩) 25 25) ∧ (Below w.heap.size w w' ∧ Blk w' w.heap.size 72 tab2A) := by
  go_enter Try.func61, Try.ntmps61
  go_upto_region 1 with (fail)
  refine wp_region_lit ?_
  refine wpList_val (.agg #[.int .i64 1, .string ⟨#[103, 101, 116, 95, 118, 97, 114]⟩, .string ⟨#[114, 97]⟩, .string ⟨#[97]⟩, .string ⟨#[114]⟩]) rfl (by kernel_rfl) ?_
  refine wpList_val (.agg #[.int .i64 2, .string ⟨#[103, 101, 116, 95, 118, 97, 108]⟩, .string ⟨#[114, 97]⟩, .string ⟨#[114, 97]⟩, .string ⟨#[]⟩]) rfl (by kernel_rfl) ?_
  refine wpList_val (.agg #[.int .i64 3, .string ⟨#[103, 101, 116, 95, 105, 110, 116]⟩, .string ⟨#[97, 110]⟩, .string ⟨#[97]⟩, .string ⟨#[]⟩]) rfl (by kernel_rfl) ?_
  refine wpList_val (.agg #[.int .i64 4, .string ⟨#[103, 101, 116, 95, 97, 116, 111, 109]⟩, .string ⟨#[97, 115]⟩, .string ⟨#[97]⟩, .string ⟨#[]⟩]) rfl (by kernel_rfl) ?_
  refine wpList_val (.agg #[.int .i64 5, .string ⟨#[103, 101, 116, 95, 115, 116, 114, 117, 99, 116]⟩, .string ⟨#[97, 102]⟩, .string ⟨#[97]⟩, .string ⟨#[]⟩]) rfl (by kernel_rfl) ?_
  refine wpList_val (.agg #[.int .i64 6, .string ⟨#[97, 114, 103, 95, 118, 97, 114]⟩, .string ⟨#[114]⟩, .string ⟨#[]⟩, .string ⟨#[114]⟩]) rfl (by kernel_rfl) ?_
  refine wpList_val (.agg #[.int .i64 7, .string ⟨#[97, 114, 103, 95, 118, 97, 108]⟩, .string ⟨#[114]⟩, .string ⟨#[114]⟩, .string ⟨#[]⟩]) rfl (by kernel_rfl) ?_
  refine wpList_val (.agg #[.int .i64 8, .string ⟨#[97, 114, 103, 95, 105, 110, 116]⟩, .string ⟨#[110]⟩, .string ⟨#[]⟩, .string ⟨#[]⟩]) rfl (by kernel_rfl) ?_
  refine wpList_val (.agg #[.int .i64 9, .string ⟨#[97, 114, 103, 95, 97, 116, 111, 109]⟩, .string ⟨#[115]⟩, .string ⟨#[]⟩, .string ⟨#[]⟩]) rfl (by kernel_rfl) ?_
  refine wpList_val (.agg #[.int .i64 10, .string ⟨#[97, 114, 103, 95, 118, 111, 105, 100]⟩, .string ⟨#[118]⟩, .string ⟨#[]⟩, .string ⟨#[]⟩]) rfl (by kernel_rfl) ?_
  refine wpList_val (.agg #[.int .i64 11, .string ⟨#[112, 117, 116, 95, 118, 97, 114]⟩, .string ⟨#[114, 97]⟩, .string ⟨#[]⟩, .string ⟨#[114, 97]⟩]) rfl (by kernel_rfl) ?_
  refine wpList_val (.agg #[.int .i64 12, .string ⟨#[112, 117, 116, 95, 118, 97, 108]⟩, .string ⟨#[114, 97]⟩, .string ⟨#[114]⟩, .string ⟨#[97]⟩]) rfl (by kernel_rfl) ?_
  refine wpList_val (.agg #[.int .i64 13, .string ⟨#[112, 117, 116, 95, 105, 110, 116]⟩, .string ⟨#[97, 110]⟩, .string ⟨#[]⟩, .string ⟨#[97]⟩]) rfl (by kernel_rfl) ?_
  refine wpList_val (.agg #[.int .i64 14, .string ⟨#[112, 117, 116, 95, 97, 116, 111, 109]⟩, .string ⟨#[97, 115]⟩, .string ⟨#[]⟩, .string ⟨#[97]⟩]) rfl (by kernel_rfl) ?_
  refine wpList_val (.agg #[.int .i64 15, .string ⟨#[112, 117, 116, 95, 115, 116, 114, 117, 99, 116]⟩, .string ⟨#[114, 102]⟩, .string ⟨#[]⟩, .string ⟨#[114]⟩]) rfl (by kernel_rfl) ?_
  refine wpList_val (.agg #[.int .i64 16, .string ⟨#[97, 108, 108, 111, 99, 97, 116, 101]⟩, .string ⟨#[99]⟩, .string ⟨#[]⟩, .string ⟨#[]⟩]) rfl (by kernel_rfl) ?_
  refine wpList_val (.agg #[.int .i64 17, .string ⟨#[116, 114, 105, 109]⟩, .string ⟨#[99]⟩, .string ⟨#[]⟩, .string ⟨#[]⟩]) rfl (by kernel_rfl) ?_
  refine wpList_val (.agg #[.int .i64 18, .string ⟨#[102, 114, 101, 101]⟩, .string ⟨#[]⟩, .string ⟨#[]⟩, .string ⟨#[]⟩]) rfl (by kernel_rfl) ?_
  refine wpList_val (.agg #[.int .i64 19, .string ⟨#[99, 97, 108, 108]⟩, .string ⟨#[112]⟩, .string ⟨#[112]⟩, .string ⟨#[]⟩]) rfl (by kernel_rfl) ?_
  refine wpList_val (.agg #[.int .i64 20, .string ⟨#[101, 120, 101, 99, 117, 116, 101]⟩, .string ⟨#[112]⟩, .string ⟨#[112]⟩, .string ⟨#[]⟩]) rfl (by kernel_rfl) ?_
  refine wpList_val (.agg #[.int .i64 21, .string ⟨#[112, 114, 111, 99, 101, 101, 100]⟩, .string ⟨#[]⟩, .string ⟨#[]⟩, .string ⟨#[]⟩]) rfl (by kernel_rfl) ?_
  refine wpList_val (.agg #[.int .i64 22, .string ⟨#[108, 101, 118, 101, 108]⟩, .string ⟨#[114]⟩, .string ⟨#[]⟩, .string ⟨#[114]⟩]) rfl (by kernel_rfl) ?_
  refine wpList_val (.agg #[.int .i64 23, .string ⟨#[109, 97, 114, 107]⟩, .string ⟨#[114]⟩, .string ⟨#[]⟩, .string ⟨#[114]⟩]) rfl (by kernel_rfl) ?_
  refine wpList_val (.agg #[.int .i64 24, .string ⟨#[99, 117, 116]⟩, .string ⟨#[114]⟩, .string ⟨#[114]⟩, .string ⟨#[]⟩]) rfl (by kernel_rfl) ?_
  refine wpList_val (.agg #[.int .i64 25, .string ⟨#[102, 97, 105, 108]⟩, .string ⟨#[]⟩, .string ⟨#[]⟩, .string ⟨#[]⟩]) rfl (by kernel_rfl) ?_
  refine wpList_val2 (.slice (some ⟨w.heap.size, 0, none⟩) 25 25) (w.alloc (.cells tab2A 72)) rfl (by kernel_rfl) ?_
  refine wpList_val (.slice (some ⟨w.heap.size, 0, none⟩) 25 25) rfl (by kernel_rfl) ?_
  rename_i K hK
  refine hK _ _ ?_
  refine wp_ret ?_
  refine bodyPost_ret (v := .slice (some ⟨w.heap.size, 0, none⟩) 25 25) ?_ ?_ ?_
  rotate_left
  · rfl
  · exact ⟨rfl, bAlloc _ _, Blk.new _ _ _⟩
  exact (results_tmp (t := 0) (by kernel_rfl) _ _ _).trans (by kernel_rfl)
theorem zv72 (w : World) : (zeroValue 72).run Try.prog w = .ok (.agg #[.int .i64 0, .string ⟨#[]⟩, .string ⟨#[]⟩, .string ⟨#[]⟩, .string ⟨#[]⟩]) w := by kernel_rfl
def opN (op : Int) : Int := if okOp op then op else 0
@[reducible] def sh2V (op : Int) : Value := .agg #[.int .i64 (opN op), .string (sh op).1, .string (sh op).2.1, .string (sh op).2.2.1, .string (sh op).2.2.2]
set_option maxHeartbeats 400000 in
theorem shape_any (op : Int) (w : World) : Calls Try.prog 47 #[.int .i64 op] w fun e w' => e = .returned (.tuple #[sh2V op, .bool (okOp op)]) ∧ Below w.heap.size w w' := by
  cases ho : okOp op with
  | false =>
    have HS := Lib.hid (And.intro (sh_out ho) ho)
    have hc : op < 1 ∨ 25 < op := by simp [okOp] at ho; omega
    clear ho
    go_enter Try.func47, Try.ntmps47
    rcases hc with hc | hc <;> go_wp2_with fail
    all_goals
      refine bodyPost_ret (v := .tuple #[.agg #[.int .i64 0, .string ⟨#[]⟩, .string ⟨#[]⟩, .string ⟨#[]⟩, .string ⟨#[]⟩], .bool false]) (by simp [results, Try.results47, go_sem]) rfl ⟨?_, ?_⟩
      · unfold sh2V opN; rw [HS.out.1, HS.out.2]; rfl
      · exact bAlloc _ _
  | true =>
    have hc : 1 ≤ op ∧ op ≤ 25 := by simpa [okOp] using ho
    have HO := Lib.hid ho
    obtain ⟨h1, h2⟩ := hc
    have hd : decide (op < 1) = false := by simp; omega
    have hd2 : decide (25 < op) = false := by simp; omega
    clear ho
    go_enter Try.func47, Try.ntmps47
    go_wp2_with fail
    refine (Shapes_any _).mono ?_
    rintro e w1 ⟨rfl, hb, hk⟩
    have hz : w.heap.size < w1.heap.size := by have := hb.size; simp at this; omega
    obtain ⟨q0, q1⟩ := bcell hb
    have HB := Lib.hid hb
    obtain ⟨t0, t1, t2, t3, t4⟩ := tab2_at (shape2_at h1 h2)
    rw [show (op - 1).toNat = op.toNat - 1 by omega] at t0 t1 t2 t3 t4
    have ec : ∀ j, w1.cell? ⟨w.heap.size + 1, j, none⟩ = (tab2L shape2L)[j]? := fun j => (by
      have := hk.cell j
      rw [World.size_alloc] at this
      rw [this]; show tab2A[j]? = _; unfold tab2A; simp)
    have c0 := (ec _).trans t0
    have c1 := (ec _).trans t1
    have c2 := (ec _).trans t2
    have c3 := (ec _).trans t3
    have c4 := (ec _).trans t4
    clear ec hk hb t0 t1 t2 t3 t4
    go_wp2_with fail
    refine bodyPost_ret (v := .tuple #[.agg #[.int .i64 op, .string (sh op).1, .string (sh op).2.1, .string (sh op).2.2.1, .string (sh op).2.2.2], .bool true]) (by simp [results, Try.results47, go_sem, q0]) rfl ⟨?_, ?_⟩
    · unfold sh2V opN; rw [HO.out]; rfl
    · exact ((((((bStart HB.out).setCell (Nat.le_refl _) _).setCell (Nat.le_refl _) _).setCell (Nat.le_refl _) _).setCell (Nat.le_refl _) _).setCell (Nat.le_refl _) _)
end Go.Proofs.Yteffpeokialeiaa
