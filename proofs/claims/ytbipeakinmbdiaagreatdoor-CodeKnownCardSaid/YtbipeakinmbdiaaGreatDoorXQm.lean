/-
  Memory: a map from texts to numbers that a function builds and ranges over.
-/
import Derived.Test.YtbipeakinmbdiaaGreatDoorKh
import Derived.Test.YtbipeakinmbdiaaGreatDoorKf
import Derived.Laws.IdiomStrings
import Derived.OwnWalk
namespace Go.Proofs.YtbipeakinmbdiaaGreatDoor
open Go.RowKit Go.ChangeMaps

theorem under42 : Tryz.prog.underlying 42 = some (.map 9 3) := by kernel_rfl
theorem under9s : Tryz.prog.underlying 9 = some .string := by kernel_rfl
theorem run_checkKeyS (em : Bool) (s : ByteArray) (w : World) : (Instr.checkKey em 10000 9 (.string s)).run Tryz.prog w = .ok () w := by kernel_rfl
/-- block g is a map whose entries are of a list -/
def StrM (w : World) (g c : Nat) (T : List (List UInt8 × Int)) : Prop :=
  ∃ es, w.heap[g]? = some (.map es c) ∧ MapKept.Stamped es c ∧ ∀ e ∈ es.toList, ∃ p ∈ T, e.key = .string (S p.1) ∧ e.val = .int .i64 p.2
section
variable {w w' : World} {g c : Nat} {T : List (List UInt8 × Int)}
theorem StrM.new (w : World) : StrM (w.alloc (.map #[] 0)) w.heap.size 0 [] := ⟨#[], heap_alloc_new w _, MapKept.stamped_empty 0, fun e h => by simp at h⟩
theorem StrM.insert (h : StrM w g c T) (t : List UInt8) (v : Int) (hn : ∀ p ∈ T, p.1 ≠ t) :
    ∃ w', (Instr.mapUpdate 42 (.map (some g)) (.string (S t)) (.int .i64 v)).run Tryz.prog w = .ok () w' ∧ StrM w' g (c + 1) ((t, v) :: T) ∧ w.grownBy w' (some g) ∧ w'.heap.size = w.heap.size := by
  obtain ⟨es, h1, h2, h3⟩ := h
  have hg := (Array.getElem?_eq_some_iff.1 h1).1
  rcases MapKept.findNow_spec (d := .string) (k := .string (S t)) trivial es.toList 0 (fun e he => by obtain ⟨p, _, hk, _⟩ := h3 e he; rw [hk]; exact trivial) with ⟨hf, h5⟩ | ⟨j, e, hf, he, hek⟩
  · have hf' : (Instr.findKey 9 (.string (S t)) es.toList).run Tryz.prog w = .ok none w := by rw [MapKept.run_findKey under9s hf]
    refine ⟨{ w with heap := w.heap.setIfInBounds g (.map (es.push { key := .string (S t), val := .int .i64 v, born := c }) (c + 1)) }, ?_, ?_, ?_, by simp⟩
    · simp [Instr.mapUpdate, run_underlying under42, MapKept.run_getObj_map h1, run_checkKeyS, hf', MapKept.run_setObj_map _ h1, Result.andThen]
    · refine ⟨es.push { key := .string (S t), val := .int .i64 v, born := c }, by simp [hg], MapKept.stamped_push h2 h5, fun e he => ?_⟩
      simp only [Array.toList_push, List.mem_append, List.mem_singleton] at he
      rcases he with he | rfl
      · obtain ⟨p, hp, h6⟩ := h3 e he
        exact ⟨p, List.mem_cons_of_mem _ hp, h6⟩
      · exact ⟨(t, v), List.mem_cons_self, rfl, rfl⟩
    · exact ⟨rfl, rfl, rfl, by simp, fun k _ hk => by simp [Array.getElem?_setIfInBounds]; intro e; exact absurd (by rw [e]) hk⟩
  · exfalso
    obtain ⟨p, hp, hk, _⟩ := h3 e (List.mem_of_getElem? he)
    rw [hk] at hek
    injection hek with hek
    exact hn p hp (S_inj hek)
/-- such a map under an iterator -/
def ItM (w : World) (g r : Nat) (T : List (List UInt8 × Int)) : Prop :=
  ∃ es c since seen c0, w.heap[g]? = some (.map es c) ∧ MapKept.Stamped es c ∧ (∀ e ∈ es.toList, ∃ p ∈ T, e.key = .string (S p.1) ∧ e.val = .int .i64 p.2) ∧
    w.heap[r]? = some (.mapIter (some g) since seen c0) ∧ (∀ e ∈ es.toList, e.born < since) ∧ since ≤ c0 ∧ since ≤ c
theorem StrM.range (h : StrM w g c T) :
    ∃ w', (Instr.range 42 (.map (some g))).run Tryz.prog w = .ok (.pointer (some ⟨w.heap.size, 0, none⟩)) w' ∧ ItM w' g w.heap.size T ∧ w.grownBy w' none ∧ w'.heap.size = w.heap.size + 1 := by
  obtain ⟨es, h1, h2, h3⟩ := h
  have hlt := (Array.getElem?_eq_some_iff.1 h1).1
  exact ⟨_, run_range_map w 42 9 3 g es c under42 h1, ⟨es, c, c, #[], c, ((MapKept.heap_alloc w _).2 g hlt).trans h1, h2, h3, (MapKept.heap_alloc w _).1, h2.1, Nat.le_refl _, Nat.le_refl _⟩, World.grownBy_alloc w _ none, by simp⟩
theorem ItM.lt {r : Nat} (h : ItM w g r T) : g < w.heap.size ∧ r < w.heap.size := by
  obtain ⟨es, c, since, seen, c0, h1, _, _, h2, _⟩ := h
  exact ⟨(Array.getElem?_eq_some_iff.1 h1).1, (Array.getElem?_eq_some_iff.1 h2).1⟩
theorem ItM.stay {r : Nat} (h : ItM w g r T) (hb : Below w.heap.size w w') : ItM w' g r T ∧ w'.rangeLeft g r = w.rangeLeft g r := by
  have hl := h.lt
  have e1 := hb.block g hl.1
  have e2 := hb.block r hl.2
  obtain ⟨es, c, since, seen, c0, h1, h2, h3, h4, h5⟩ := h
  exact ⟨⟨es, c, since, seen, c0, e1.trans h1, h2, h3, e2.trans h4, h5⟩, by simp only [World.rangeLeft, e1, e2]⟩
theorem ItM.next {r : Nat} (h : ItM w g r T) (ty : TypeId) :
    (Instr.next (.pointer (some ⟨r, 0, none⟩)) false ty).run Tryz.prog w = .ok (.tuple #[.bool false]) w ∨
    ∃ p ∈ T, ∃ w', (Instr.next (.pointer (some ⟨r, 0, none⟩)) false ty).run Tryz.prog w = .ok (.tuple #[.bool true, .string (S p.1), .int .i64 p.2]) w' ∧ ItM w' g r T ∧
      w'.rangeLeft g r < w.rangeLeft g r ∧ w.grownBy w' (some r) ∧ w'.heap.size = w.heap.size ∧ (Instr.entry (.pointer (some ⟨r, 0, none⟩))).run Tryz.prog w' = .ok (.tuple #[.string (S p.1), .int .i64 p.2]) w' := by
  obtain ⟨es, c, since, seen, c0, hb, hst, hT, hr, hold, hsc, hsk⟩ := h
  have hne : r ≠ g := by rintro rfl; rw [hb] at hr; cases hr
  rcases run_next_at (P := Tryz.prog) w ty r g since c0 seen es c hr hb hold hsc with ⟨h0, hrun⟩ | ⟨e, he, w1, hal, hrun⟩
  · exact .inl hrun
  · obtain ⟨hem, hes⟩ := mem_left he
    obtain ⟨p, hp, hx, hv⟩ := hT e hem
    have hr1 : w1.heap[r]? = some (.mapIter (some g) since seen c0) := by rcases hal with rfl | rfl <;> exact hr
    have hb1 : w1.heap[g]? = some (.map es c) := by rcases hal with rfl | rfl <;> exact hb
    have hset : (setBlock w1 r (.mapIter (some g) since (seen.push e.born) c)).heap[r]? = some (.mapIter (some g) since (seen.push e.born) c) ∧ ∀ i, i ≠ r → (setBlock w1 r (.mapIter (some g) since (seen.push e.born) c)).heap[i]? = w1.heap[i]? := MapKept.heap_set hr1
    have hb' : (setBlock w1 r (.mapIter (some g) since (seen.push e.born) c)).heap[g]? = some (.map es c) := (hset.2 g (fun e1 => hne e1.symm)).trans hb1
    refine .inr ⟨p, hp, _, by rw [hrun, hx, hv], ⟨es, c, since, seen.push e.born, c, hb', hst, hT, hset.1, hold, hsk, hsk⟩, ?_, ?_, ?_,
      by rw [run_entry_at _ r g since seen es c e hset.1 hb' hem hst.2.1, hx, hv]⟩
    · have e1 : w.rangeLeft g r = (leftOf es seen).size := by simp only [World.rangeLeft, hb, hr]
      have e2 : (setBlock w1 r (.mapIter (some g) since (seen.push e.born) c)).rangeLeft g r = (leftOf es (seen.push e.born)).size := by simp only [World.rangeLeft, hb', hset.1]
      rw [e1, e2]
      exact left_shrinks es seen e he
    · rcases hal with rfl | rfl <;> exact ⟨rfl, rfl, rfl, by simp [setBlock], fun i _ hi => hset.2 i (fun e1 => hi (by rw [e1]))⟩
    · rcases hal with rfl | rfl <;> simp [setBlock]
end
section
variable {ops : Array Oper} {rest : List Oper} {o : Oper} {a : Act} {Q : Exit → Act → World → Prop} (w : World)
theorem wpList_insert_str (hg : o.guard = none) (m x y : Operand) (hop : o.op = Op.insert 42 m x y) (g c : Nat) (T : List (List UInt8 × Int)) (t : List UInt8) (v : Int) (hm : a.eval m = .map (some g)) (h : StrM w g c T) (hx : a.eval x = .string (S t)) (hy : a.eval y = .int .i64 v) (hn : ∀ p ∈ T, p.1 ≠ t)
    (hK : ∀ w', StrM w' g (c + 1) ((t, v) :: T) → w.grownBy w' (some g) → w'.heap.size = w.heap.size → wpList Tryz.prog ops Q rest (a.put o.dst undef) w') :
    wpList Tryz.prog ops Q (o :: rest) a w := by
  refine wpList_plain hg fun K' hK' => ?_
  obtain ⟨w', hrun, r1, r3, r4⟩ := h.insert t v hn
  unfold Oper.wp
  simp [execOp, hop, hm, hx, hy, hrun, Result.andThen]
  exact hK' _ _ (hK w' r1 r3 r4)
theorem wpList_range_str (hg : o.guard = none) (m : Operand) (hop : o.op = Op.range 42 m) (g c : Nat) (T : List (List UInt8 × Int)) (hm : a.eval m = .map (some g)) (h : StrM w g c T)
    (hK : ∀ w', ItM w' g w.heap.size T → w.grownBy w' none → w'.heap.size = w.heap.size + 1 → wpList Tryz.prog ops Q rest (a.put o.dst (.pointer (some ⟨w.heap.size, 0, none⟩))) w') :
    wpList Tryz.prog ops Q (o :: rest) a w := by
  refine wpList_plain hg fun K' hK' => ?_
  obtain ⟨w', hrun, r1, r2, r3⟩ := h.range
  unfold Oper.wp
  simp [execOp, hop, hm, hrun, Result.andThen]
  exact hK' _ _ (hK w' r1 r2 r3)
theorem wpList_next_str (hg : o.guard = none) (it : Operand) (hop : o.op = Op.next it false) (g r : Nat) (T : List (List UInt8 × Int)) (hit : a.eval it = .pointer (some ⟨r, 0, none⟩)) (h : ItM w g r T)
    (hDone : wpList Tryz.prog ops Q rest (a.put o.dst (.tuple #[.bool false])) w)
    (hMore : ∀ (p : List UInt8 × Int) (w' : World), p ∈ T → ItM w' g r T → w'.rangeLeft g r < w.rangeLeft g r → w.grownBy w' (some r) → w'.heap.size = w.heap.size →
      (Instr.entry (.pointer (some ⟨r, 0, none⟩))).run Tryz.prog w' = .ok (.tuple #[.string (S p.1), .int .i64 p.2]) w' → wpList Tryz.prog ops Q rest (a.put o.dst (.tuple #[.bool true, .string (S p.1), .int .i64 p.2])) w') :
    wpList Tryz.prog ops Q (o :: rest) a w := by
  refine wpList_plain hg fun K' hK' => ?_
  unfold Oper.wp
  rcases h.next o.type with hrun | ⟨p, hp, w', hrun, hrg, hlt, hgr, hsz, hen⟩
  · simp [execOp, hop, hit, hrun, Result.andThen]
    exact hK' _ _ hDone
  · simp [execOp, hop, hit, hrun, Result.andThen]
    exact hK' _ _ (hMore p w' hp hrg hlt hgr hsz hen)
end
/-- a row of zero bytes as a text -/
theorem conv_zero {w : World} {base g n cap : Nat} (h : w.ownsRow base 5 1 (.slice (some ⟨g, 0, none⟩) n cap) n (madeCells (Value.int .u8 0).cells (n * 1)).toList) :
    (convert 45 9 (.slice (some ⟨g, 0, none⟩) n cap)).run Tryz.prog w = .ok (.string (S (List.replicate n 0))) w := by
  have := run_convert_bytes_back (P := Tryz.prog) w 45 9 5 ⟨g, 0, none⟩ cap (List.replicate n 0) (by kernel_rfl) (by kernel_rfl) (by kernel_rfl) (fun j hj => by
    have hj' : j < n := by simpa using hj
    have ea : ((⟨g, 0, none⟩ : Addr).add j) = ⟨g, j, none⟩ := by
      rcases Nat.eq_zero_or_pos j with rfl | h0
      · rfl
      · simp [Addr.add]; omega
    rw [ea, h.cellAt (g := g) j (by omega)]
    unfold madeCells
    simp [hj', Value.cells]
    rw [Nat.mod_one]
    rfl)
  rw [List.length_replicate] at this
  exact this
end Go.Proofs.YtbipeakinmbdiaaGreatDoor
