/-
  Laws: a map with integers for keys, told by a function.
-/
import Derived.Test.YteffpeokialeiaaAa
import Derived.MapKept
import Derived.Carry
namespace Go.Proofs.Yteffpeokialeiaa
open Go.RowKit

theorem under3 : Try.prog.underlying 3 = some (.int .i64) := by kernel_rfl
theorem under57 : Try.prog.underlying 57 = some (.map 3 4) := by kernel_rfl
theorem under59 : Try.prog.underlying 59 = some (.map 3 3) := by kernel_rfl
theorem run_zero4 (w : World) : (zeroValue 4).run Try.prog w = .ok (.bool false) w := by kernel_rfl
theorem run_zero3 (w : World) : (zeroValue 3).run Try.prog w = .ok (.int .i64 0) w := by kernel_rfl
theorem run_checkKeyI (em : Bool) (x : Int) (w : World) : (Instr.checkKey em 10000 3 (.int .i64 x)).run Try.prog w = .ok () w := by kernel_rfl
/-- the value that a list of keys and values has for a key -/
def lookI : List (Int × Value) → Int → Option (Nat × Value)
  | [], _ => none
  | (k, v) :: t, x => if x = k then some (0, v) else (lookI t x).map fun r => (r.1 + 1, r.2)
def updI : List (Int × Value) → Int → Value → List (Int × Value)
  | [], x, v => [(x, v)]
  | (k, u) :: t, x, v => if x = k then (x, v) :: t else (k, u) :: updI t x v
theorem look_upd : ∀ (l : List (Int × Value)) (x y : Int) (v : Value), (lookI (updI l x v) y).map (·.2) = if y = x then some v else (lookI l y).map (·.2)
  | [], x, y, v => by unfold updI lookI; split <;> simp [lookI]
  | (k, u) :: t, x, y, v => by
    unfold updI
    by_cases e : x = k
    · subst e
      rw [if_pos rfl]
      unfold lookI
      by_cases e2 : y = x
      · rw [if_pos e2, if_pos e2]; rfl
      · rw [if_neg e2, if_neg e2, if_neg e2]
    · rw [if_neg e]
      have ih := look_upd t x y v
      unfold lookI
      by_cases e2 : y = k
      · rw [if_pos e2, if_pos e2, if_neg (by omega)]
      · rw [if_neg e2, if_neg e2]
        simpa [Option.map_map, Function.comp_def] using ih
theorem findNow_at (x : Int) : ∀ (l : List (Int × Value)) (es : List MapEntry) (j : Nat), es.map (fun e => (e.key, e.val)) = l.map (fun p => (Value.int .i64 p.1, p.2)) →
    Instr.findNow (.int .i64) (.int .i64 x) es j = some ((lookI l x).map fun r => (j + r.1, r.2)) := by
  intro l
  induction l with
  | nil =>
    intro es j h
    cases es with
    | nil => simp [Instr.findNow, lookI]
    | cons e es => simp at h
  | cons y t ih =>
    intro es j h
    cases es with
    | nil => simp at h
    | cons e es =>
      simp only [List.map_cons, List.cons.injEq, Prod.mk.injEq] at h
      obtain ⟨⟨hk, hv⟩, ht⟩ := h
      unfold Instr.findNow lookI
      rw [hk]
      have hs : Instr.sameNow (.int .i64) (.int .i64 x) (.int .i64 y.1) = some (x == y.1) := rfl
      rw [hs]
      by_cases he : x = y.1
      · simp [he, hv]
      · rw [show (x == y.1) = false by simpa using he]
        simp [he, ih es (j + 1) ht, Nat.add_assoc, Nat.add_comm 1, Function.comp_def]
/-- block g is a map that is the given function -/
def MapI (w : World) (g : Nat) (f : Int → Option Value) : Prop :=
  ∃ (es : Array MapEntry) (c : Nat) (l : List (Int × Value)), w.heap[g]? = some (.map es c) ∧ es.toList.map (fun e => (e.key, e.val)) = l.map (fun p => (Value.int .i64 p.1, p.2)) ∧ ∀ x, (lookI l x).map (·.2) = f x
section
variable {w w' : World} {g : Nat} {f : Int → Option Value}
theorem MapI.stay (h : MapI w g f) (hk : w'.heap[g]? = w.heap[g]?) : MapI w' g f := by
  obtain ⟨es, c, l, h1, h2⟩ := h
  exact ⟨es, c, l, hk.trans h1, h2⟩
theorem MapI.lt (h : MapI w g f) : g < w.heap.size := by
  obtain ⟨es, c, l, h1, h2⟩ := h
  exact (Array.getElem?_eq_some_iff.1 h1).1
theorem MapI.next (h : MapI w g f) (hb : Below w.heap.size w w') : MapI w' g f := h.stay (hb.block g h.lt)
theorem MapI.alloc (h : MapI w g f) (o : Obj) : MapI (w.alloc o) g f := h.stay (heap_alloc_old _ _ h.lt)
theorem MapI.set_ (h : MapI w g f) {p : Addr} (hp : g ≠ p.block) (v : Value) : MapI (w.setCell p v) g f := h.stay (heap_setCell_other _ _ _ _ hp)
theorem MapI.grown {row : Option Nat} (h : MapI w g f) (hb : w.grownBy w' row) (hr : row ≠ some g) : MapI w' g f := h.stay (hb.block g h.lt fun e => hr e.symm)
theorem MapI.new (w : World) : MapI (w.alloc (.map #[] 0)) w.heap.size (fun _ => none) := ⟨#[], 0, [], heap_alloc_new w _, rfl, fun _ => rfl⟩
theorem MapI.cells (h : MapI w g f) {t : TypeId} {cs : Array Value} {k : Nat} (hb : Blk w k t cs) : k ≠ g := by
  rintro rfl
  obtain ⟨es, c, l, h1, h2⟩ := h
  unfold Blk at hb
  rw [hb] at h1; cases h1
theorem MapI.look (h : MapI w g f) (x : Int) : ∃ es c l, w.heap[g]? = some (.map es c) ∧ (Instr.findKey 3 (.int .i64 x) es.toList).run Try.prog w = .ok (lookI l x) w ∧ (lookI l x).map (·.2) = f x := by
  obtain ⟨es, c, l, h1, h2, h3⟩ := h
  refine ⟨es, c, l, h1, ?_, h3 x⟩
  rw [MapKept.run_findKey under3 (findNow_at x l es.toList 0 h2)]
  cases lookI l x <;> simp
/-- a look-up in a map of bools -/
theorem MapI.lookB (h : MapI w g f) (x : Int) : (Instr.lookup 57 (.map (some g)) (.int .i64 x) false).run Try.prog w = .ok ((f x).getD (.bool false)) w := by
  obtain ⟨es, c, l, h1, hf, h3⟩ := h.look x
  rw [← h3]
  cases hr : lookI l x with
  | none =>
    rw [hr] at hf
    simp [Instr.lookup, run_underlying under57, MapKept.run_getObj_map h1, run_checkKeyI, hf, Result.andThen]
  | some r =>
    rw [hr] at hf
    simp [Instr.lookup, run_underlying under57, MapKept.run_getObj_map h1, run_checkKeyI, hf, Result.andThen]
/-- a look-up in a map of integers -/
theorem MapI.lookN (h : MapI w g f) (x : Int) : (Instr.lookup 59 (.map (some g)) (.int .i64 x) false).run Try.prog w = .ok ((f x).getD (.int .i64 0)) w := by
  obtain ⟨es, c, l, h1, hf, h3⟩ := h.look x
  rw [← h3]
  cases hr : lookI l x with
  | none =>
    rw [hr] at hf
    simp [Instr.lookup, run_underlying under59, MapKept.run_getObj_map h1, run_checkKeyI, hf, Result.andThen]
  | some r =>
    rw [hr] at hf
    simp [Instr.lookup, run_underlying under59, MapKept.run_getObj_map h1, run_checkKeyI, hf, Result.andThen]
theorem MapI.lookOk (h : MapI w g f) (x : Int) : (Instr.lookup 59 (.map (some g)) (.int .i64 x) true).run Try.prog w = .ok (.tuple #[(f x).getD (.int .i64 0), .bool (f x).isSome]) w := by
  obtain ⟨es, c, l, h1, hf, h3⟩ := h.look x
  rw [← h3]
  cases hr : lookI l x with
  | none =>
    rw [hr] at hf
    simp [Instr.lookup, run_underlying under59, MapKept.run_getObj_map h1, run_checkKeyI, hf, Result.andThen]
  | some r =>
    rw [hr] at hf
    simp [Instr.lookup, run_underlying under59, MapKept.run_getObj_map h1, run_checkKeyI, hf, Result.andThen]
theorem run_keyStays (x : Int) (w : World) : (Instr.keyThatStays (.int .i64 x) (.int .i64 x)).run Try.prog w = .ok (.int .i64 x) w := by
  have : Instr.sameBits 10000 (.int .i64 x) (.int .i64 x) = true := by simp [Instr.sameBits]
  simp [Instr.keyThatStays, this]
theorem modify_upd : ∀ (l : List (Int × Value)) (es : List MapEntry) (x : Int) (v : Value) (r : Nat × Value), es.map (fun e => (e.key, e.val)) = l.map (fun p => (Value.int .i64 p.1, p.2)) → lookI l x = some r →
    (∃ e, es[r.1]? = some e ∧ e.key = .int .i64 x) ∧ (es.modify r.1 (fun e => { e with key := .int .i64 x, val := v })).map (fun e => (e.key, e.val)) = (updI l x v).map (fun p => (Value.int .i64 p.1, p.2))
  | [], _, _, _, _, _, h => by simp [lookI] at h
  | (k, u) :: t, [], _, _, _, h, _ => by simp at h
  | (k, u) :: t, e :: es, x, v, r, h, hl => by
    simp only [List.map_cons, List.cons.injEq, Prod.mk.injEq] at h
    obtain ⟨⟨hk, hv⟩, ht⟩ := h
    unfold lookI at hl
    unfold updI
    by_cases hx : x = k
    · rw [if_pos hx] at hl
      rw [if_pos hx]
      injection hl with hl
      subst hl
      exact ⟨⟨e, rfl, by rw [hk, hx]⟩, by simp [ht]⟩
    · rw [if_neg hx] at hl
      rw [if_neg hx]
      cases hr : lookI t x with
      | none => rw [hr] at hl; simp at hl
      | some r' =>
        rw [hr] at hl
        simp only [Option.map_some, Option.some.injEq] at hl
        subst hl
        obtain ⟨⟨e', h1, h2⟩, h3⟩ := modify_upd t es x v r' ht hr
        exact ⟨⟨e', by simpa using h1, h2⟩, by simp [hk, hv, h3]⟩
theorem push_upd : ∀ (l : List (Int × Value)) (x : Int) (v : Value), lookI l x = none → updI l x v = l ++ [(x, v)]
  | [], _, _, _ => rfl
  | (k, u) :: t, x, v, h => by
    unfold lookI at h
    unfold updI
    by_cases hx : x = k
    · rw [if_pos hx] at h; cases h
    · rw [if_neg hx] at h
      rw [if_neg hx, push_upd t x v (by simpa using h)]; rfl
/-- a store -/
theorem MapI.update (h : MapI w g f) {mt el : TypeId} (hm : Try.prog.underlying mt = some (.map 3 el)) (x : Int) (v : Value) :
    ∃ w', (Instr.mapUpdate mt (.map (some g)) (.int .i64 x) v).run Try.prog w = .ok () w' ∧ MapI w' g (fun y => if y = x then some v else f y) ∧ w.grownBy w' (some g) ∧ w'.heap.size = w.heap.size := by
  obtain ⟨es, c, l, h1, h2, h3⟩ := h
  have hf : (Instr.findKey 3 (.int .i64 x) es.toList).run Try.prog w = .ok (lookI l x) w := by
    rw [MapKept.run_findKey under3 (findNow_at x l es.toList 0 h2)]
    cases lookI l x <;> simp
  have hg := (Array.getElem?_eq_some_iff.1 h1).1
  cases hr : lookI l x with
  | none =>
    rw [hr] at hf
    refine ⟨{ w with heap := w.heap.setIfInBounds g (.map (es.push { key := .int .i64 x, val := v, born := c }) (c + 1)) }, ?_, ?_, ?_, by simp⟩
    · simp [Instr.mapUpdate, run_underlying hm, MapKept.run_getObj_map h1, run_checkKeyI, hf, MapKept.run_setObj_map _ h1, Result.andThen]
    · refine ⟨es.push { key := .int .i64 x, val := v, born := c }, c + 1, updI l x v, by simp [hg], ?_, fun y => by rw [look_upd, h3 y]⟩
      rw [push_upd l x v hr]; simp [h2]
    · exact ⟨rfl, rfl, rfl, by simp, fun k _ hk => by simp [Array.getElem?_setIfInBounds]; intro e; exact absurd (by rw [e]) hk⟩
  | some r =>
    rw [hr] at hf
    obtain ⟨⟨e, he, hek⟩, hmod⟩ := modify_upd l es.toList x v r h2 hr
    have he' : es[r.1]? = some e := by simpa using he
    refine ⟨{ w with heap := w.heap.setIfInBounds g (.map (es.modify r.1 fun e => { e with key := .int .i64 x, val := v }) c) }, ?_, ?_, ?_, by simp⟩
    · simp [Instr.mapUpdate, run_underlying hm, MapKept.run_getObj_map h1, run_checkKeyI, hf, MapKept.run_setObj_map _ h1, Result.andThen, he', hek, run_keyStays]
    · refine ⟨es.modify r.1 fun e => { e with key := .int .i64 x, val := v }, c, updI l x v, by simp [hg], ?_, fun y => by rw [look_upd, h3 y]⟩
      rw [← hmod]; simp
    · exact ⟨rfl, rfl, rfl, by simp, fun k _ hk => by simp [Array.getElem?_setIfInBounds]; intro e; exact absurd (by rw [e]) hk⟩
theorem MapI.congr {f' : Int → Option Value} (h : MapI w g f) (e : ∀ x, f x = f' x) : MapI w g f' := by
  obtain ⟨es, c, l, h1, h2, h3⟩ := h
  exact ⟨es, c, l, h1, h2, fun x => (h3 x).trans (e x)⟩
end
end Go.Proofs.Yteffpeokialeiaa
