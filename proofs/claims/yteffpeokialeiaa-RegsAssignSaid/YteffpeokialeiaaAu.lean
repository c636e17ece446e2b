/-
  Walks: the methods of the heap of free numbers.
-/
import Derived.Test.YteffpeokialeiaaAj
import Derived.BigRegion
import Derived.BigQuiet
import Derived.Deep.QuietTactic
import Derived.WalkLawsBesides
import Derived.Outline
namespace Go.Proofs.Yteffpeokialeiaa
open Go.RowKit

theorem meth_push (fb : Nat) (w : World) : (method 211 61 (.pointer (some ⟨fb, 0, none⟩)) "Push").run Try.prog w = .ok (82, .pointer (some ⟨fb, 0, none⟩)) w := by kernel_rfl
theorem meth_pop (fb : Nat) (w : World) : (method 211 61 (.pointer (some ⟨fb, 0, none⟩)) "Pop").run Try.prog w = .ok (81, .pointer (some ⟨fb, 0, none⟩)) w := by kernel_rfl
def MethRow (name : String) (f : FuncId) : Prop := ((Try.prog.info? 61).map fun i => (i.methods.find? (·.name == name)).map fun m => (m.path.toList, m.path.isEmpty, m.func)) = some (some ([], true, some (f, false)))
theorem run_chk (a : Addr) (name : String) (w : World) : (Builtin.ssaWrapNilChk_ #[61] 61 #[.pointer (some a), strVal "", strVal name]).run Try.prog w = .ok (.pointer (some a)) w := by kernel_rfl
theorem row_len : MethRow "Len" 42 := by unfold MethRow; kernel_rfl
theorem row_less : MethRow "Less" 80 := by unfold MethRow; kernel_rfl
theorem row_swap : MethRow "Swap" 83 := by unfold MethRow; kernel_rfl
theorem under61 : Try.prog.underlying 61 = some (.pointer 62) := by kernel_rfl
theorem run_load62 {fb : Nat} {w : World} {v : Value} (hc : w.cell? ⟨fb, 0, none⟩ = some v) : (loadVar 62 ⟨fb, 0, none⟩).run Try.prog w = .ok v w := by
  have h : (Instr.loadAt 62 (.pointer (some ⟨fb, 0, none⟩))).run Try.prog w = .ok v w := by go_simp
  simpa [Instr.loadAt, Instr.sureAddr] using h
theorem meth_val {name : String} {f : FuncId} (hrow : MethRow name f) {fb : Nat} {w : World} {v : Value} (hc : w.cell? ⟨fb, 0, none⟩ = some v) :
    (method 211 61 (.pointer (some ⟨fb, 0, none⟩)) name).run Try.prog w = .ok (f, v) w := by
  unfold MethRow at hrow
  cases hi : Try.prog.info? 61 with
  | none => rw [hi] at hrow; simp at hrow
  | some i =>
    rw [hi] at hrow
    simp only [Option.map_some, Option.some.injEq] at hrow
    cases hm : i.methods.find? (·.name == name) with
    | none => rw [hm] at hrow; simp at hrow
    | some m =>
      rw [hm] at hrow
      simp only [Option.map_some, Option.some.injEq, Prod.mk.injEq] at hrow
      obtain ⟨h1, h2, h3⟩ := hrow
      have h4 : m.path = #[] := by simpa using h1
      unfold method
      simp [typeInfo, hi, hm, h4, h3, follow, receiverAt, run_underlying under61, Place.get, run_chk, asAddr, run_load62 hc, Result.andThen]

theorem own_cell {w : World} {base n cap g : Nat} {l : List Int} (h : w.ownsRow base 3 1 (.slice (some ⟨g, 0, none⟩) n cap) n (iCs l)) {i : Nat} {x : Int} (hx : l[i]? = some x) :
    w.cell? ⟨g, i, none⟩ = some (.int .i64 x) ∧ w.frozen? ⟨g, i, none⟩ = false := by
  have hj : (iCs l)[i]? = some (.int .i64 x) := by unfold iCs; rw [List.getElem?_map, hx]; rfl
  have hlt := (List.getElem?_eq_some_iff.1 hx).1
  have hl := h.1
  rw [iCs_len] at hl
  exact ⟨(h.cellAt i (by omega)).trans hj, h.frozenAt i⟩
theorem len_any (A : Option Addr) (n c : Nat) (w : World) : Calls Try.prog 42 #[.slice A n c] w fun e w' => e = .returned (.int .i64 n) ∧ w = w' := by
  go_enter Try.func42, Try.ntmps42
  go_wp2
  go_ret
  exact ⟨rfl, rfl⟩
set_option maxHeartbeats 400000 in
theorem less_any (g n c base : Nat) (l : List Int) (i j : Nat) (x y : Int) (w : World) (h : w.ownsRow base 3 1 (.slice (some ⟨g, 0, none⟩) n c) n (iCs l)) (_hn : n ≤ 1000000) (hx : l[i]? = some x) (hy : l[j]? = some y) :
    Calls Try.prog 80 #[.slice (some ⟨g, 0, none⟩) n c, .int .i64 i, .int .i64 j] w fun e w' => e = .returned (.bool (decide (x < y))) ∧ ∃ k, w' = w.drewN k := by
  obtain ⟨c1, _⟩ := own_cell h hx
  obtain ⟨c2, _⟩ := own_cell h hy
  have hi : i < n := by have := (List.getElem?_eq_some_iff.1 hx).1; have := h.1; rw [iCs_len] at this; omega
  have hj : j < n := by have := (List.getElem?_eq_some_iff.1 hy).1; have := h.1; rw [iCs_len] at this; omega
  clear h hx hy
  go_enter Try.func80, Try.ntmps80
  go_wp2_with fail
  go_quiet (fail)
  go_wp2_with fail
  go_ret
  exact ⟨rfl, _, rfl⟩
/-- an exchange -/
def swapL (l : List Int) (i j : Nat) (x y : Int) : List Int := (l.set i y).set j x
set_option maxHeartbeats 400000 in
theorem swap_any (g n c base : Nat) (l : List Int) (i j : Nat) (x y : Int) (w : World) (h : w.ownsRow base 3 1 (.slice (some ⟨g, 0, none⟩) n c) n (iCs l)) (_hn : n ≤ 1000000) (hx : l[i]? = some x) (hy : l[j]? = some y) :
    Calls Try.prog 83 #[.slice (some ⟨g, 0, none⟩) n c, .int .i64 i, .int .i64 j] w fun e w' => e = .returned (.tuple #[]) ∧ (w'.ownsRow base 3 1 (.slice (some ⟨g, 0, none⟩) n c) n (iCs (swapL l i j x y)) ∧ w.grownBy w' (some g) ∧ w'.heap.size = w.heap.size) := by
  obtain ⟨c1, f1⟩ := own_cell h hx
  obtain ⟨c2, f2⟩ := own_cell h hy
  have hi : i < n := by have := (List.getElem?_eq_some_iff.1 hx).1; have := h.1; rw [iCs_len] at this; omega
  have hj : j < n := by have := (List.getElem?_eq_some_iff.1 hy).1; have := h.1; rw [iCs_len] at this; omega
  have H := Lib.hid h
  have HX := Lib.hid (And.intro hx hy)
  obtain ⟨v', c3⟩ := cell?_setCell_some (w := w) (p := ⟨g, i, none⟩) (x := .int .i64 y) (q := ⟨g, j, none⟩) (v := .int .i64 y) c2
  clear h hx hy
  go_enter Try.func83, Try.ntmps83
  go_wp2_with fail
  go_region
  go_wp2_with fail
  go_end0
  refine ⟨rfl, ?_⟩
  obtain ⟨o1, g1⟩ := H.out.stored i (.int .i64 y)
  obtain ⟨o2, g2⟩ := o1.stored j (.int .i64 x)
  have e : iCs (swapL l i j x y) = ((iCs l).set i (.int .i64 y)).set j (.int .i64 x) := by unfold swapL iCs; rw [List.map_set, List.map_set]
  rw [e]
  have g3 := g1.trans g2
  exact ⟨o2, ⟨g3.os, g3.tape, g3.output, g3.size, g3.block⟩, by simp⟩
/-- what a call on the heap in variable fb may turn: the variable, and the row in it -/
structure Touch (w w' : World) (fb : Nat) (v v' : Value) : Prop where
  os : w'.os = w.os
  tape : w'.tape = w.tape
  output : w'.output = w.output
  size : w.heap.size ≤ w'.heap.size
  block : ∀ k, k < w.heap.size → k ≠ fb → v.ownBlock ≠ some k → w'.heap[k]? = w.heap[k]?
  row : v'.ownBlock = v.ownBlock ∨ ∃ g, v'.ownBlock = some g ∧ w.heap.size ≤ g
theorem Touch.refl (w : World) (fb : Nat) (v : Value) : Touch w w fb v v := ⟨rfl, rfl, rfl, Nat.le_refl _, fun _ _ _ _ => rfl, .inl rfl⟩
theorem Touch.trans {a b c : World} {fb : Nat} {v1 v2 v3 : Value} (h : Touch a b fb v1 v2) (k : Touch b c fb v2 v3) : Touch a c fb v1 v3 := by
  refine ⟨k.os.trans h.os, k.tape.trans h.tape, k.output.trans h.output, Nat.le_trans h.size k.size, fun x hx hf hv => ?_, ?_⟩
  · rw [k.block x (Nat.lt_of_lt_of_le hx h.size) hf ?_, h.block x hx hf hv]
    intro e
    rcases h.row with h1 | ⟨g, h1, h2⟩
    · exact hv (h1 ▸ e)
    · rw [h1] at e; injection e with e; omega
  · rcases k.row with h1 | ⟨g, h1, h2⟩
    · rw [h1]; exact h.row
    · exact .inr ⟨g, h1, Nat.le_trans h.size h2⟩
theorem Touch.drewN {a b : World} {fb : Nat} {v1 v2 : Value} (h : Touch a b fb v1 v2) (n : Nat) : Touch a (b.drewN n) fb v1 v2 := ⟨h.os, h.tape, h.output, h.size, h.block, h.row⟩
theorem Touch.grown {a b c : World} {fb : Nat} {v1 v2 : Value} (h : Touch a b fb v1 v2) (g : b.grownBy c v2.ownBlock) : Touch a c fb v1 v2 :=
  h.trans ⟨g.os, g.tape, g.output, g.size, fun k hk _ hv => g.block k hk fun e => hv e.symm, .inl rfl⟩
/-- a heap in a variable: its values -/
def Hp (w : World) (fb base : Nat) (v : Value) (l : List Int) : Prop := Blk w fb 62 #[v] ∧ w.ownsRow base 3 1 v l.length (iCs l)
theorem Hp.drewN {w : World} {fb base : Nat} {v : Value} {l : List Int} (h : Hp w fb base v l) (n : Nat) : Hp (w.drewN n) fb base v l := h
theorem Hp.ne {w : World} {fb base : Nat} {v : Value} {l : List Int} (h : Hp w fb base v l) : v.ownBlock ≠ some fb := fun e => by
  obtain ⟨cs, h2⟩ := own_ty h.2 e
  have := h.1
  unfold Blk at this
  rw [this] at h2; injection h2 with h2; injection h2 with _ h3 _; exact absurd h3 (by decide)
theorem swapL_len (l : List Int) (i j : Nat) (x y : Int) : (swapL l i j x y).length = l.length := by simp [swapL]
end Go.Proofs.Yteffpeokialeiaa
