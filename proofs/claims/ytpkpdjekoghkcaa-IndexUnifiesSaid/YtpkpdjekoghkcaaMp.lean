/-
  Laws: a map from keys to places.
-/
import Derived.Test.YtpkpdjekoghkcaaWb
import Derived.Test.YtpkpdjekoghkcaaOf
import Derived.WideKeyRuns
namespace Go.Proofs.Ytpkpdjekoghkcaa
open Go.RowKit
theorem info62 : (Try.prog.info? 62).map (fun i => (i.zero, i.size, i.bytes)) = some (some (.agg #[.int .i64 0, .int .i64 0, .string .empty, .int .i64 0, .slice none 0 0]), 5, 64) := by kernel_rfl

theorem run_checkKey (em : Bool) (x : K) (w : World) : (Instr.checkKey em 10000 35 x.v).run Try.prog w = .ok () w := by
  kernel_rfl
theorem run_equal (x y : K) (w : World) : (Op.equal 35 x.v y.v).run Try.prog w = .ok (K.eqv x y) w := by
  obtain ⟨k, n, s, m⟩ := x
  obtain ⟨k', n', s', m'⟩ := y
  unfold Op.equal Op.maxDepth K.eqv eqK
  go_simp
  by_cases h1 : k = k' <;> by_cases h2 : n = n' <;> by_cases h3 : s.toList = s'.toList <;> by_cases h4 : m = m' <;> simp [h1, h2, h3, h4]
/-- the entries of a map that gives each key of a list its place -/
def entries : List K → Nat → List (Value × Value)
  | [], _ => []
  | x :: t, i => (x.v, .int .i64 (i : Int)) :: entries t (i + 1)
theorem run_findAsking (x : K) (l : List K) (w : World) : ∀ (es : List MapEntry) (i j : Nat), es.map (fun e => (e.key, e.val)) = entries l i →
    (Instr.findAsking 35 x.v es j).run Try.prog w = .ok ((l.findIdx? (K.eqv x ·)).map fun r => (j + r, .int .i64 ((i + r : Nat) : Int))) w := by
  induction l with
  | nil =>
    intro es i j h
    cases es with
    | nil => simp [Instr.findAsking]
    | cons e es => simp [entries] at h
  | cons y t ih =>
    intro es i j h
    cases es with
    | nil => simp [entries] at h
    | cons e es =>
      simp only [List.map_cons, entries, List.cons.injEq, Prod.mk.injEq] at h
      obtain ⟨⟨hk, hv⟩, ht⟩ := h
      unfold Instr.findAsking
      rw [hk, Sem.run_bind, run_equal, List.findIdx?_cons]
      cases he : K.eqv x y
      · simp [Result.andThen, ih es (i + 1) (j + 1) ht, Nat.add_assoc, Nat.add_comm 1, Function.comp_def]
      · simp [Result.andThen, hv]
/-- block g is a map that gives each key of a list its place -/
def MapAt (w : World) (g : Nat) (l : List K) : Prop := ∃ (es : Array MapEntry) (c : Nat), w.heap[g]? = some (.map es c) ∧ es.toList.map (fun e => (e.key, e.val)) = entries l 0
theorem entries_snoc (l : List K) (x : K) (i : Nat) : entries (l ++ [x]) i = entries l i ++ [(x.v, .int .i64 ((i + l.length : Nat) : Int))] := by
  induction l generalizing i with
  | nil => rfl
  | cons y t ih => simp only [List.cons_append, entries, ih, List.length_cons]; rw [show i + 1 + t.length = i + (t.length + 1) from by omega]
theorem MapAt.stay {w w' : World} {g : Nat} {l : List K} (h : MapAt w g l) (hk : w'.heap[g]? = w.heap[g]?) : MapAt w' g l := by
  obtain ⟨es, c, h1, h2⟩ := h
  exact ⟨es, c, hk.trans h1, h2⟩
theorem MapAt.lt {w : World} {g : Nat} {l : List K} (h : MapAt w g l) : g < w.heap.size := by
  obtain ⟨es, c, h1, h2⟩ := h
  exact (Array.getElem?_eq_some_iff.1 h1).1
theorem MapAt.ne {w : World} {g g' t : Nat} {l : List K} {cs : Array Value} {fr : Nat × Nat} (h : MapAt w g l) (h' : w.heap[g']? = some (.cells cs t fr)) : g ≠ g' := by
  obtain ⟨es, c, h1, h2⟩ := h
  rintro rfl
  rw [h1] at h'
  injection h' with h'
  cases h'
theorem MapAt.new (w : World) : MapAt (w.alloc (.map #[] 0)) w.heap.size [] := ⟨#[], 0, heap_alloc_new w _, rfl⟩

theorem run_findKey35 (x : Value) (es : List MapEntry) (w : World) : (Instr.findKey 35 x es).run Try.prog w = (Instr.findAsking 35 x es).run Try.prog w :=
  run_findKey_eq w (by rw [Try.underlying35]) x es
theorem run_zero3 (w : World) : (zeroValue 3).run Try.prog w = .ok (.int .i64 0) w := by kernel_rfl

theorem run_look {w : World} {g : Nat} {l : List K} (h : MapAt w g l) (x : K) :
    (Instr.lookup 72 (.map (some g)) x.v true).run Try.prog w = .ok (.tuple #[.int .i64 (((l.findIdx? (K.eqv x ·)).getD 0 : Nat) : Int), .bool (l.findIdx? (K.eqv x ·)).isSome]) w := by
  obtain ⟨es, c, h1, h2⟩ := h
  have hf := run_findAsking x l w es.toList 0 0 h2
  cases hr : l.findIdx? (K.eqv x ·) with
  | none =>
    rw [hr] at hf
    simp [Instr.lookup, run_underlying Try.underlying72, MapKept.run_getObj_map h1, run_checkKey, run_findKey35, hf, Result.andThen]
  | some r =>
    rw [hr] at hf
    simp [Instr.lookup, run_underlying Try.underlying72, MapKept.run_getObj_map h1, run_checkKey, run_findKey35, hf, Result.andThen]
theorem run_look1 {w : World} {g : Nat} {l : List K} (h : MapAt w g l) (x : K) :
    (Instr.lookup 72 (.map (some g)) x.v false).run Try.prog w = .ok (.int .i64 (((l.findIdx? (K.eqv x ·)).getD 0 : Nat) : Int)) w := by
  obtain ⟨es, c, h1, h2⟩ := h
  have hf := run_findAsking x l w es.toList 0 0 h2
  cases hr : l.findIdx? (K.eqv x ·) with
  | none =>
    rw [hr] at hf
    simp [Instr.lookup, run_underlying Try.underlying72, MapKept.run_getObj_map h1, run_checkKey, run_findKey35, hf, Result.andThen]
  | some r =>
    rw [hr] at hf
    simp [Instr.lookup, run_underlying Try.underlying72, MapKept.run_getObj_map h1, run_checkKey, run_findKey35, hf, Result.andThen]
theorem run_update {w : World} {g : Nat} {l : List K} (h : MapAt w g l) (x : K) (hn : l.findIdx? (K.eqv x ·) = none) :
    ∃ w', (Instr.mapUpdate 72 (.map (some g)) x.v (.int .i64 (l.length : Int))).run Try.prog w = .ok () w' ∧ MapAt w' g (l ++ [x]) ∧ w.grownBy w' (some g) ∧ w'.heap.size = w.heap.size := by
  obtain ⟨es, c, h1, h2⟩ := h
  have hf := run_findAsking x l w es.toList 0 0 h2
  rw [hn] at hf
  have hg := (Array.getElem?_eq_some_iff.1 h1).1
  refine ⟨{ w with heap := w.heap.setIfInBounds g (.map (es.push { key := x.v, val := .int .i64 (l.length : Int), born := c }) (c + 1)) }, ?_, ?_, ?_, by simp⟩
  · simp [Instr.mapUpdate, run_underlying Try.underlying72, MapKept.run_getObj_map h1, run_checkKey, run_findKey35, hf, MapKept.run_setObj_map _ h1, Result.andThen]
  · refine ⟨es.push { key := x.v, val := .int .i64 (l.length : Int), born := c }, c + 1, by simp [hg], ?_⟩
    simp [h2, entries_snoc]
  · exact ⟨rfl, rfl, rfl, by simp, fun k _ hk => by simp [Array.getElem?_setIfInBounds]; intro e; exact absurd (by rw [e]) hk⟩
theorem find_none {l : List K} {x : K} (h : l.any (K.eqv x ·) = false) : l.findIdx? (K.eqv x ·) = none := by
  rw [List.findIdx?_eq_none_iff]
  intro y hy
  cases he : K.eqv x y
  · rfl
  · rw [List.any_eq_false] at h; exact absurd he (h y hy)
theorem find_some {l : List K} {x : K} (h : l.any (K.eqv x ·) = true) : ∃ r, l.findIdx? (K.eqv x ·) = some r ∧ l[r]? = some x := by
  cases hr : l.findIdx? (K.eqv x ·) with
  | none =>
    rw [List.findIdx?_eq_none_iff] at hr
    obtain ⟨y, hy, he⟩ := List.any_eq_true.1 h
    rw [hr y hy] at he; cases he
  | some r =>
    refine ⟨r, rfl, ?_⟩
    obtain ⟨hlt, he, _⟩ := List.findIdx?_eq_some_iff_getElem.1 hr
    rw [List.getElem?_eq_getElem hlt, (K.eqv_iff x _).1 he]
end Go.Proofs.Ytpkpdjekoghkcaa
