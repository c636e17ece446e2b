/-
  Laws: a map with strings for keys.
-/
import Derived.Test.YtcagaaacfcpoeaaGreatAg
import Derived.WideKeyRuns
import Derived.Maps.AppendAt
namespace Go.Proofs.YtcagaaacfcpoeaaGreat
open Go.RowKit

theorem run_checkKey (em : Bool) (x : ByteArray) (w : World) : (Instr.checkKey em 10000 9 (.string x)).run Tryz.prog w = .ok () w := by
  kernel_rfl
/-- two strings are equal -/
def eqS (x y : ByteArray) : Bool := decide (x.toList = y.toList)
theorem eqS_iff (x y : ByteArray) : eqS x y = true ↔ x = y := by
  unfold eqS
  simp only [decide_eq_true_eq, ByteArray.toList_eq]
  constructor
  · intro h
    cases x; cases y
    simpa using Array.toList_inj.1 h
  · rintro rfl; rfl
theorem eqS_self (x : ByteArray) : eqS x x = true := (eqS_iff x x).2 rfl
theorem eqS_ne {x y : ByteArray} (h : x ≠ y) : eqS x y = false := by
  cases he : eqS x y
  · rfl
  · exact absurd ((eqS_iff x y).1 he) h
/-- the value that a list of keys and values has for a key -/
def lookS (l : List (ByteArray × Value)) (x : ByteArray) : Option (Nat × Value) := match l with
  | [] => none
  | (k, v) :: t => if eqS x k then some (0, v) else (lookS t x).map fun r => (r.1 + 1, r.2)
theorem same_now (x y : ByteArray) : Instr.sameNow .string (.string x) (.string y) = some (eqS x y) := by
  unfold Instr.sameNow
  simp only [Option.some.injEq]
  rw [Bool.eq_iff_iff, eqS_iff]
  exact MapKept.bytes_beq x y
theorem findNow_at (x : ByteArray) : ∀ (l : List (ByteArray × Value)) (es : List MapEntry) (j : Nat), es.map (fun e => (e.key, e.val)) = l.map (fun p => (Value.string p.1, p.2)) →
    Instr.findNow .string (.string x) es j = some ((lookS l x).map fun r => (j + r.1, r.2)) := by
  intro l
  induction l with
  | nil =>
    intro es j h
    cases es with
    | nil => simp [Instr.findNow, lookS]
    | cons e es => simp at h
  | cons y t ih =>
    intro es j h
    cases es with
    | nil => simp at h
    | cons e es =>
      simp only [List.map_cons, List.cons.injEq, Prod.mk.injEq] at h
      obtain ⟨⟨hk, hv⟩, ht⟩ := h
      unfold Instr.findNow lookS
      rw [hk, same_now]
      cases he : eqS x y.1
      · simp [ih es (j + 1) ht, Nat.add_assoc, Nat.add_comm 1, Function.comp_def]
      · simp [hv]
/-- block g is a map that gives each key of a list its value -/
def MapS (w : World) (g : Nat) (l : List (ByteArray × Value)) : Prop := ∃ (es : Array MapEntry) (c : Nat), w.heap[g]? = some (.map es c) ∧ es.toList.map (fun e => (e.key, e.val)) = l.map (fun p => (Value.string p.1, p.2))
theorem MapS.stay {w w' : World} {g : Nat} {l : List (ByteArray × Value)} (h : MapS w g l) (hk : w'.heap[g]? = w.heap[g]?) : MapS w' g l := by
  obtain ⟨es, c, h1, h2⟩ := h
  exact ⟨es, c, hk.trans h1, h2⟩
theorem MapS.lt {w : World} {g : Nat} {l : List (ByteArray × Value)} (h : MapS w g l) : g < w.heap.size := by
  obtain ⟨es, c, h1, h2⟩ := h
  exact (Array.getElem?_eq_some_iff.1 h1).1
theorem MapS.new (w : World) : MapS (w.alloc (.map #[] 0)) w.heap.size [] := ⟨#[], 0, heap_alloc_new w _, rfl⟩
theorem run_zero44 (w : World) : (zeroValue 81).run Tryz.prog w = .ok (.agg #[.nilFunc]) w := by kernel_rfl
theorem run_key {es : List MapEntry} {l : List (ByteArray × Value)} (h : es.map (fun e => (e.key, e.val)) = l.map (fun p => (Value.string p.1, p.2))) (x : ByteArray) (w : World) :
    (Instr.findKey 9 (.string x) es).run Tryz.prog w = .ok (lookS l x) w := by
  rw [MapKept.run_findKey Tryz.underlying9 (findNow_at x l es 0 h)]
  cases lookS l x <;> simp
theorem run_look {w : World} {g : Nat} {l : List (ByteArray × Value)} (h : MapS w g l) (x : ByteArray) :
    (Instr.lookup 83 (.map (some g)) (.string x) true).run Tryz.prog w = .ok (.tuple #[((lookS l x).map (·.2)).getD (.agg #[.nilFunc]), .bool (lookS l x).isSome]) w := by
  obtain ⟨es, c, h1, h2⟩ := h
  have hf := run_key h2 x w
  cases hr : lookS l x with
  | none =>
    rw [hr] at hf
    simp [Instr.lookup, run_underlying Tryz.underlying83, MapKept.run_getObj_map h1, run_checkKey, hf, Result.andThen]
  | some r =>
    rw [hr] at hf
    simp [Instr.lookup, run_underlying Tryz.underlying83, MapKept.run_getObj_map h1, run_checkKey, hf, Result.andThen]
theorem run_update {w : World} {g : Nat} {l : List (ByteArray × Value)} (h : MapS w g l) (x : ByteArray) (v : Value) (hn : lookS l x = none) :
    ∃ w', (Instr.mapUpdate 83 (.map (some g)) (.string x) v).run Tryz.prog w = .ok () w' ∧ MapS w' g (l ++ [(x, v)]) ∧ w.grownBy w' (some g) ∧ w'.heap.size = w.heap.size := by
  obtain ⟨es, c, h1, h2⟩ := h
  have hf := run_key h2 x w
  rw [hn] at hf
  have hg := (Array.getElem?_eq_some_iff.1 h1).1
  refine ⟨{ w with heap := w.heap.setIfInBounds g (.map (es.push { key := .string x, val := v, born := c }) (c + 1)) }, ?_, ?_, ?_, by simp⟩
  · simp [Instr.mapUpdate, run_underlying Tryz.underlying83, MapKept.run_getObj_map h1, run_checkKey, hf, MapKept.run_setObj_map _ h1, Result.andThen]
  · refine ⟨es.push { key := .string x, val := v, born := c }, c + 1, by simp [hg], ?_⟩
    simp [h2]
  · exact ⟨rfl, rfl, rfl, by simp, fun k _ hk => by simp [Array.getElem?_setIfInBounds]; intro e; exact absurd (by rw [e]) hk⟩
end Go.Proofs.YtcagaaacfcpoeaaGreat
