/-
  Small laws on memory: instructions, lists of instructions and of integers; how they are kept. Walks: the table of the opcodes. Walks: the row of an opcode; small tests on registers and predicates, both. Plain: well-formed instructions; what they read and write.
-/
import Derived.WalkKit
import Derived.WalkSpells
import Derived.Deep.Draws
import Derived.Lib.Hide
import Derived.OwnWalk
import Derived.Maps.AppendAt
import Derived.Deep.AppendLies
import Derived.Test.YtbipeakinmbdiaaGreatDoorProg
import Derived.Test.YtbipeakinmbdiaaGreatDoorChecked
import Derived.Deep.WholeRow
import Derived.Deep.DeepCutAuto
import Derived.Outline
namespace Go.Proofs.YtbipeakinmbdiaaGreatDoor
section
open Go.RowKit

/-- an instruction -/
structure In where
  op : Int
  r : Int
  a : Int
  n : Int
  nm : ByteArray
  ar : Int
@[reducible] def In.v (x : In) : Value := .agg #[.int .i64 x.op, .int .i64 x.r, .int .i64 x.a, .int .i64 x.n, .string x.nm, .int .i64 x.ar]
/-- the cells of an instruction -/
def ICells (w : World) (b o : Nat) (x : In) : Prop :=
  w.cell? ⟨b, o, none⟩ = some (.int .i64 x.op) ∧ w.cell? ⟨b, o + 1, none⟩ = some (.int .i64 x.r) ∧ w.cell? ⟨b, o + 2, none⟩ = some (.int .i64 x.a) ∧ w.cell? ⟨b, o + 3, none⟩ = some (.int .i64 x.n) ∧
  w.cell? ⟨b, o + 4, none⟩ = some (.string x.nm) ∧ w.cell? ⟨b, o + 5, none⟩ = some (.int .i64 x.ar)
def InsAt (w : World) (B : Nat) (A : Option Addr) (n : Nat) (l : List In) : Prop :=
  (l.length = n ∧ n ≤ 3000000000000) ∧ (0 < n → ∃ b off, A = some ⟨b, off, none⟩ ∧ b < B ∧ ∀ i x, l[i]? = some x → ICells w b (off + i * 6) x)
def IntsAt (w : World) (B : Nat) (A : Option Addr) (n : Nat) (l : List Int) : Prop :=
  (l.length = n ∧ n ≤ 1000000) ∧ (0 < n → ∃ b off, A = some ⟨b, off, none⟩ ∧ b < B ∧ ∀ i x, l[i]? = some x → w.cell? ⟨b, off + i, none⟩ = some (.int .i64 x))

section
variable {w w' : World} {B B' n : Nat} {A : Option Addr}
theorem ICells.below {b o : Nat} {x : In} (h : ICells w b o x) (hB : b < B) (hb : Below B w w') : ICells w' b o x := by
  obtain ⟨h0, h1, h2, h3, h4, h5⟩ := h
  have hc : ∀ o, w'.cell? ⟨b, o, none⟩ = w.cell? ⟨b, o, none⟩ := fun o => hb.cell (p := ⟨b, o, none⟩) hB
  exact ⟨(hc _).trans h0, (hc _).trans h1, (hc _).trans h2, (hc _).trans h3, (hc _).trans h4, (hc _).trans h5⟩
theorem InsAt.at {l : List In} (h : InsAt w B A n l) {i : Nat} (hi : i < n) :
    ∃ b off x, A = some ⟨b, off, none⟩ ∧ b < B ∧ l[i]? = some x ∧ ICells w b (off + i * 6) x := by
  obtain ⟨⟨hn, _⟩, h⟩ := h
  obtain ⟨b, off, e, hb, hc⟩ := h (by omega)
  have hx : l[i]? = some (l[i]'(by omega)) := List.getElem?_eq_getElem _
  exact ⟨b, off, _, e, hb, hx, hc i _ hx⟩
theorem IntsAt.at {l : List Int} (h : IntsAt w B A n l) {i : Nat} (hi : i < n) :
    ∃ b off x, A = some ⟨b, off, none⟩ ∧ b < B ∧ l[i]? = some x ∧ w.cell? ⟨b, off + i, none⟩ = some (.int .i64 x) := by
  obtain ⟨⟨hn, _⟩, h⟩ := h
  obtain ⟨b, off, e, hb, hc⟩ := h (by omega)
  have hx : l[i]? = some (l[i]'(by omega)) := List.getElem?_eq_getElem _
  exact ⟨b, off, _, e, hb, hx, hc i _ hx⟩
theorem InsAt.below {l : List In} (h : InsAt w B A n l) (hb : Below B w w') : InsAt w' B A n l := ⟨h.1, fun hn => by
  obtain ⟨b, off, e, hlt, hc⟩ := h.2 hn
  exact ⟨b, off, e, hlt, fun i x hx => (hc i x hx).below hlt hb⟩⟩
theorem InsAt.more {l : List In} (h : InsAt w B A n l) (hB : B ≤ B') : InsAt w B' A n l := ⟨h.1, fun hn => by
  obtain ⟨b, off, e, hlt, hc⟩ := h.2 hn
  exact ⟨b, off, e, by omega, hc⟩⟩
theorem InsAt.nil (w : World) (B : Nat) (A : Option Addr) : InsAt w B A 0 [] := ⟨⟨rfl, by omega⟩, fun h => absurd h (by omega)⟩
theorem InsAt.next {l : List In} (h : InsAt w w.heap.size A n l) (hb : Below w.heap.size w w') : InsAt w' w'.heap.size A n l := (h.below hb).more hb.size
theorem InsAt.len {l : List In} (h : InsAt w B A n l) : l.length = n := h.1.1
theorem IntsAt.below {l : List Int} (h : IntsAt w B A n l) (hb : Below B w w') : IntsAt w' B A n l := ⟨h.1, fun hn => by
  obtain ⟨b, off, e, hlt, hc⟩ := h.2 hn
  exact ⟨b, off, e, hlt, fun i x hx => (hb.cell (p := ⟨b, _, none⟩) hlt).trans (hc i x hx)⟩⟩
theorem IntsAt.more {l : List Int} (h : IntsAt w B A n l) (hB : B ≤ B') : IntsAt w B' A n l := ⟨h.1, fun hn => by
  obtain ⟨b, off, e, hlt, hc⟩ := h.2 hn
  exact ⟨b, off, e, by omega, hc⟩⟩
theorem IntsAt.nil (w : World) (B : Nat) (A : Option Addr) : IntsAt w B A 0 [] := ⟨⟨rfl, by omega⟩, fun h => absurd h (by omega)⟩
theorem IntsAt.next {l : List Int} (h : IntsAt w w.heap.size A n l) (hb : Below w.heap.size w w') : IntsAt w' w'.heap.size A n l := (h.below hb).more hb.size
theorem IntsAt.len {l : List Int} (h : IntsAt w B A n l) : l.length = n := h.1.1
end

theorem bNext {W w1 w2 : World} (h : Below W.heap.size W w1) (k : Below w1.heap.size w1 w2) : Below W.heap.size W w2 := h.trans (k.mono h.size)
theorem bStart {w : World} {o : Obj} {w1 : World} (h : Below (w.alloc o).heap.size (w.alloc o) w1) : Below w.heap.size w w1 := ((Below.refl _ _).alloc (Nat.le_refl _) _).trans (h.mono (by simp))
theorem bAlloc (w : World) (o : Obj) : Below w.heap.size w (w.alloc o) := (Below.refl _ _).alloc (Nat.le_refl _) _
theorem bDrewN {B : Nat} {w w1 : World} (h : Below B w w1) (n : Nat) : Below B w (w1.drewN n) := ⟨h.os, h.tape, h.output, h.size, h.block⟩
theorem bDrew (w : World) : Below w.heap.size w w.drew := ⟨rfl, rfl, rfl, Nat.le_refl _, fun _ _ => rfl⟩
theorem ret_bool {a b : Bool} (h : a = b) : Ending.returned (.bool a) = .returned (.bool b) := by rw [h]
theorem ret_int {k : IntKind} {a b : Int} (h : a = b) : Ending.returned (.int k a) = .returned (.int k b) := by rw [h]
theorem bcell {W w1 : World} (hb : Below W.heap.size W w1) : (∀ b o, b < W.heap.size → w1.cell? ⟨b, o, none⟩ = W.cell? ⟨b, o, none⟩) ∧ (∀ b o, b < W.heap.size → w1.frozen? ⟨b, o, none⟩ = W.frozen? ⟨b, o, none⟩) :=
  ⟨fun b o h => hb.cell (p := ⟨b, o, none⟩) h, fun b o h => hb.frozen (p := ⟨b, o, none⟩) h⟩

/-- a block of cells that can be written -/
def Blk (w : World) (g : Nat) (t : TypeId) (cs : Array Value) : Prop := w.heap[g]? = some (.cells cs t (0, 0))
section
variable {w w' : World} {g : Nat} {t : TypeId} {cs : Array Value}
theorem Blk.lt (h : Blk w g t cs) : g < w.heap.size := by
  rcases Nat.lt_or_ge g w.heap.size with h' | h'
  · exact h'
  · unfold Blk at h; rw [Array.getElem?_eq_none h'] at h; cases h
theorem Blk.cell (h : Blk w g t cs) (i : Nat) : w.cell? ⟨g, i, none⟩ = cs[i]? := cell_of_row w g i cs t (0, 0) h
theorem Blk.frozen (h : Blk w g t cs) (i : Nat) : w.frozen? ⟨g, i, none⟩ = false := frozen_of_row w g i cs t h
theorem Blk.new (w : World) (t : TypeId) (cs : Array Value) : Blk (w.alloc (.cells cs t)) w.heap.size t cs := heap_alloc_new w _
theorem Blk.alloc (h : Blk w g t cs) (o : Obj) : Blk (w.alloc o) g t cs := (Below.heap_alloc w o g h.lt).trans h
theorem Blk.below {B : Nat} (h : Blk w g t cs) (hb : Below B w w') (hg : g < B) : Blk w' g t cs := (hb.block g hg).trans h
theorem Blk.next (h : Blk w g t cs) (hb : Below w.heap.size w w') : Blk w' g t cs := h.below hb h.lt
theorem Blk.grown {row : Option Nat} (h : Blk w g t cs) (hb : w.grownBy w' row) (hg : row ≠ some g) : Blk w' g t cs := (hb.block g h.lt (fun e => hg e.symm)).trans h
theorem Blk.set_ (h : Blk w g t cs) (i : Nat) (u : Value) : Blk (w.setCell ⟨g, i, none⟩ u) g t (cs.setIfInBounds i u) := heap_setCell_same w g i cs t u h
theorem Blk.far (h : Blk w g t cs) {p : Addr} (hp : g ≠ p.block) (u : Value) : Blk (w.setCell p u) g t cs := (heap_setCell_other w p g u hp).trans h
end
section
variable {w w' : World} {base n e size : Nat} {v : Value} {xs : List Value}
/-- a slice's capacity -/
def CapOk (A : Option Addr) (n c : Nat) : Prop := n ≤ c ∧ (A = none → c = 0)
theorem own_form (h : w.ownsRow base e size v n xs) : ∃ A c, v = .slice A n c ∧ CapOk A n c := by
  rcases h.2 with ⟨rfl, rfl⟩ | ⟨g, cap, cur, rfl, _, _, hc, _⟩
  · exact ⟨_, _, rfl, Nat.le_refl _, fun _ => rfl⟩
  · exact ⟨_, _, rfl, hc, fun e => by cases e⟩
theorem own_stay (h : w.ownsRow base e size v n xs) (hk : ∀ g, v.ownBlock = some g → w'.heap[g]? = w.heap[g]?) : w'.ownsRow base e size v n xs := by
  refine ⟨h.1, ?_⟩
  rcases h.2 with h2 | ⟨g, cap, cur, hv, hg, hh, r⟩
  · exact .inl h2
  · exact .inr ⟨g, cap, cur, hv, hg, (hk g (by rw [hv]; rfl)).trans hh, r⟩
theorem own_lt (h : w.ownsRow base e size v n xs) {g : Nat} (hg : v.ownBlock = some g) : base ≤ g ∧ g < w.heap.size := by
  rcases h.2 with ⟨rfl, rfl⟩ | ⟨g', cap, cur, rfl, hb, hh, _⟩
  · simp [Value.ownBlock] at hg
  · simp [Value.ownBlock] at hg; subst hg
    exact ⟨hb, (Array.getElem?_eq_some_iff.1 hh).1⟩
theorem own_next (h : w.ownsRow base e size v n xs) (hb : Below w.heap.size w w') : w'.ownsRow base e size v n xs := own_stay h fun g hg => hb.block g (own_lt h hg).2
theorem own_base {base' : Nat} (h : w.ownsRow base e size v n xs) (hb : base' ≤ base) : w.ownsRow base' e size v n xs :=
  ⟨h.1, h.2.elim Or.inl fun ⟨g, cap, cur, hv, hg, r⟩ => Or.inr ⟨g, cap, cur, hv, Nat.le_trans hb hg, r⟩⟩
theorem own_ty (h : w.ownsRow base e size v n xs) {g : Nat} (hg : v.ownBlock = some g) : ∃ cs, w.heap[g]? = some (.cells cs e (0, 0)) := by
  rcases h.2 with ⟨rfl, rfl⟩ | ⟨g', cap, cur, rfl, _, hh, _⟩
  · simp [Value.ownBlock] at hg
  · simp [Value.ownBlock] at hg; subst hg; exact ⟨cur, hh⟩
end
/-- the cells of integers, of instructions -/
def iCs (l : List Int) : List Value := l.map (.int .i64)
theorem iCs_len (l : List Int) : (iCs l).length = l.length := List.length_map _
theorem own_ints {w : World} {base n c : Nat} {A : Option Addr} {l : List Int} (h : w.ownsRow base 3 1 (.slice A n c) n (iCs l)) (hn : n ≤ 1000000) : IntsAt w w.heap.size A n l := by
  refine ⟨⟨by have := h.1; rw [iCs_len] at this; omega, hn⟩, fun h0 => ?_⟩
  rcases h.2 with ⟨_, h1⟩ | ⟨g, cap, cur, hv, _, hh, _⟩
  · omega
  · injection hv with e1 _ e3
    subst e1 e3
    refine ⟨g, 0, rfl, (Array.getElem?_eq_some_iff.1 hh).1, fun i x hx => ?_⟩
    have hj : (iCs l)[i]? = some (.int .i64 x) := by unfold iCs; rw [List.getElem?_map, hx]; rfl
    have hlt := (List.getElem?_eq_some_iff.1 hx).1
    have hl := h.1
    rw [iCs_len] at hl
    rw [Nat.zero_add]
    exact (h.cellAt i (by omega)).trans hj
def aCs : List In → List Value
  | [] => []
  | x :: l => .int .i64 x.op :: .int .i64 x.r :: .int .i64 x.a :: .int .i64 x.n :: .string x.nm :: .int .i64 x.ar :: aCs l
theorem aCs_len (l : List In) : (aCs l).length = l.length * 6 := by
  induction l with
  | nil => rfl
  | cons x t ih => simp only [aCs, List.length_cons, ih]; omega
theorem aCs_app (l m : List In) : aCs (l ++ m) = aCs l ++ aCs m := by
  induction l with
  | nil => rfl
  | cons x t ih => simp only [List.cons_append, aCs, ih]
theorem aCs_at {l : List In} {i : Nat} {x : In} (h : l[i]? = some x) :
    (aCs l)[i * 6]? = some (.int .i64 x.op) ∧ (aCs l)[i * 6 + 1]? = some (.int .i64 x.r) ∧ (aCs l)[i * 6 + 2]? = some (.int .i64 x.a) ∧ (aCs l)[i * 6 + 3]? = some (.int .i64 x.n) ∧ (aCs l)[i * 6 + 4]? = some (.string x.nm) ∧ (aCs l)[i * 6 + 5]? = some (.int .i64 x.ar) := by
  induction l generalizing i with
  | nil => simp at h
  | cons y t ih =>
    cases i with
    | zero => simp at h; subst h; simp [aCs]
    | succ i =>
      simp at h
      have := ih h
      rw [show (i + 1) * 6 = i * 6 + 1 + 1 + 1 + 1 + 1 + 1 by omega]
      simpa [aCs] using this
theorem own_ins {w : World} {base n c : Nat} {A : Option Addr} {l : List In} (h : w.ownsRow base 34 6 (.slice A n c) n (aCs l)) (hn : n ≤ 1000000) : InsAt w w.heap.size A n l := by
  have hl := h.1
  rw [aCs_len] at hl
  refine ⟨⟨by omega, by omega⟩, fun h0 => ?_⟩
  rcases h.2 with ⟨_, h1⟩ | ⟨g, cap, cur, hv, _, hh, _⟩
  · omega
  · injection hv with e1 _ e3
    subst e1 e3
    refine ⟨g, 0, rfl, (Array.getElem?_eq_some_iff.1 hh).1, fun i x hx => ?_⟩
    obtain ⟨a0, a1, a2, a3, a4, a5⟩ := aCs_at hx
    have hlt := (List.getElem?_eq_some_iff.1 hx).1
    have hc : ∀ j u, (aCs l)[j]? = some u → w.cell? ⟨g, j, none⟩ = some u := fun j u hj =>
      (h.cellAt j (by have := (List.getElem?_eq_some_iff.1 hj).1; rw [aCs_len] at this; omega)).trans hj
    simp only [ICells, Nat.zero_add]
    exact ⟨hc _ _ a0, hc _ _ a1, hc _ _ a2, hc _ _ a3, hc _ _ a4, hc _ _ a5⟩
/-- an instruction in a variable -/
def BoxI (w : World) (b : Nat) (x : In) : Prop := Blk w b 34 #[.int .i64 x.op, .int .i64 x.r, .int .i64 x.a, .int .i64 x.n, .string x.nm, .int .i64 x.ar]
theorem BoxI.cells {w : World} {b : Nat} {x : In} (h : BoxI w b x) :
    w.cell? ⟨b, 0, none⟩ = some (.int .i64 x.op) ∧ w.cell? ⟨b, 1, none⟩ = some (.int .i64 x.r) ∧ w.cell? ⟨b, 2, none⟩ = some (.int .i64 x.a) ∧ w.cell? ⟨b, 3, none⟩ = some (.int .i64 x.n) ∧
    w.cell? ⟨b, 4, none⟩ = some (.string x.nm) ∧ w.cell? ⟨b, 5, none⟩ = some (.int .i64 x.ar) :=
  ⟨h.cell 0, h.cell 1, h.cell 2, h.cell 3, h.cell 4, h.cell 5⟩
theorem BoxI.open_ {w : World} {b : Nat} {x : In} (h : BoxI w b x) :
    w.frozen? ⟨b, 0, none⟩ = false ∧ w.frozen? ⟨b, 1, none⟩ = false ∧ w.frozen? ⟨b, 2, none⟩ = false ∧ w.frozen? ⟨b, 3, none⟩ = false ∧ w.frozen? ⟨b, 4, none⟩ = false ∧ w.frozen? ⟨b, 5, none⟩ = false :=
  ⟨h.frozen 0, h.frozen 1, h.frozen 2, h.frozen 3, h.frozen 4, h.frozen 5⟩
theorem BoxI.new (w : World) (x : In) : BoxI (w.alloc (.cells #[.int .i64 x.op, .int .i64 x.r, .int .i64 x.a, .int .i64 x.n, .string x.nm, .int .i64 x.ar] 34)) w.heap.size x := Blk.new _ _ _
end
section
open Go.RowKit

theorem wpList_val {P : Program} {ops : Array Oper} {Q : Exit → Act → World → Prop} {o : Oper} {rest : List Oper} {a : Act} {w : World} (v : Value) (hgd : o.guard = none)
    (h : (execOp a.eval o).run P w = .ok (.value v) w) (k : wpList P ops Q rest (a.put o.dst v) w) : wpList P ops Q (o :: rest) a w :=
  wpList_plain hgd fun _ hK => by unfold Oper.wp; rw [h]; exact hK _ _ k
theorem wpList_skip {P : Program} {ops : Array Oper} {Q : Exit → Act → World → Prop} {o : Oper} {rest : List Oper} {a : Act} {w : World} (w' : World) (hgd : o.guard = none)
    (h : (execOp a.eval o).run P w = .ok .skip w') (k : wpList P ops Q rest (a.put o.dst undef) w') : wpList P ops Q (o :: rest) a w :=
  wpList_plain hgd fun _ hK => by unfold Oper.wp; rw [h]; exact hK _ _ k

theorem wpList_store_new {P : Program} {ops : Array Oper} {Q : Exit → Act → World → Prop} {o : Oper} {rest : List Oper} {a : Act} {w : World} (ty : TypeId) (x y : Operand) (ho : o.op = .store ty x y)
    (hgd : o.guard = none) (c c' : Array Value) (hx : a.eval x = .pointer (some ⟨w.heap.size, 0, none⟩)) (hy : a.eval y = .agg c') (hi : (P.info? ty).map (·.size) = some c'.size) (hc : c.size = c'.size)
    (h1 : c'.all (·.oneCell') = true) (k : wpList P ops Q rest (a.put o.dst undef) (w.alloc (.cells c' ty))) : wpList P ops Q (o :: rest) a (w.alloc (.cells c ty)) :=
  wpList_skip _ hgd (by
    unfold execOp
    simp only [ho, hx, hy, run_storeAt_new w ty c c' hi hc h1, Sem.run_bind, Sem.run_pure, Result.andThen_ok]) k

/-- the table: a name, fields, what is read, what is written -/
def shapeL : List (ByteArray × ByteArray × ByteArray × ByteArray) := [
  (⟨#[]⟩, ⟨#[]⟩, ⟨#[]⟩, ⟨#[]⟩),
  (⟨#[103, 101, 116, 95, 118, 97, 114]⟩, ⟨#[114, 97]⟩, ⟨#[97]⟩, ⟨#[114]⟩),
  (⟨#[103, 101, 116, 95, 118, 97, 108]⟩, ⟨#[114, 97]⟩, ⟨#[114, 97]⟩, ⟨#[]⟩),
  (⟨#[103, 101, 116, 95, 105, 110, 116]⟩, ⟨#[97, 110]⟩, ⟨#[97]⟩, ⟨#[]⟩),
  (⟨#[103, 101, 116, 95, 97, 116, 111, 109]⟩, ⟨#[97, 115]⟩, ⟨#[97]⟩, ⟨#[]⟩),
  (⟨#[103, 101, 116, 95, 115, 116, 114, 117, 99, 116]⟩, ⟨#[97, 102]⟩, ⟨#[97]⟩, ⟨#[]⟩),
  (⟨#[97, 114, 103, 95, 118, 97, 114]⟩, ⟨#[114]⟩, ⟨#[]⟩, ⟨#[114]⟩),
  (⟨#[97, 114, 103, 95, 118, 97, 108]⟩, ⟨#[114]⟩, ⟨#[114]⟩, ⟨#[]⟩),
  (⟨#[97, 114, 103, 95, 105, 110, 116]⟩, ⟨#[110]⟩, ⟨#[]⟩, ⟨#[]⟩),
  (⟨#[97, 114, 103, 95, 97, 116, 111, 109]⟩, ⟨#[115]⟩, ⟨#[]⟩, ⟨#[]⟩),
  (⟨#[97, 114, 103, 95, 118, 111, 105, 100]⟩, ⟨#[118]⟩, ⟨#[]⟩, ⟨#[]⟩),
  (⟨#[112, 117, 116, 95, 118, 97, 114]⟩, ⟨#[114, 97]⟩, ⟨#[]⟩, ⟨#[114, 97]⟩),
  (⟨#[112, 117, 116, 95, 118, 97, 108]⟩, ⟨#[114, 97]⟩, ⟨#[114]⟩, ⟨#[97]⟩),
  (⟨#[112, 117, 116, 95, 105, 110, 116]⟩, ⟨#[97, 110]⟩, ⟨#[]⟩, ⟨#[97]⟩),
  (⟨#[112, 117, 116, 95, 97, 116, 111, 109]⟩, ⟨#[97, 115]⟩, ⟨#[]⟩, ⟨#[97]⟩),
  (⟨#[112, 117, 116, 95, 115, 116, 114, 117, 99, 116]⟩, ⟨#[114, 102]⟩, ⟨#[]⟩, ⟨#[114]⟩),
  (⟨#[97, 108, 108, 111, 99, 97, 116, 101]⟩, ⟨#[99]⟩, ⟨#[]⟩, ⟨#[]⟩),
  (⟨#[116, 114, 105, 109]⟩, ⟨#[99]⟩, ⟨#[]⟩, ⟨#[]⟩),
  (⟨#[102, 114, 101, 101]⟩, ⟨#[]⟩, ⟨#[]⟩, ⟨#[]⟩),
  (⟨#[99, 97, 108, 108]⟩, ⟨#[112]⟩, ⟨#[112]⟩, ⟨#[]⟩),
  (⟨#[101, 120, 101, 99, 117, 116, 101]⟩, ⟨#[112]⟩, ⟨#[112]⟩, ⟨#[]⟩),
  (⟨#[112, 114, 111, 99, 101, 101, 100]⟩, ⟨#[]⟩, ⟨#[]⟩, ⟨#[]⟩),
  (⟨#[108, 101, 118, 101, 108]⟩, ⟨#[114]⟩, ⟨#[]⟩, ⟨#[114]⟩),
  (⟨#[109, 97, 114, 107]⟩, ⟨#[114]⟩, ⟨#[]⟩, ⟨#[114]⟩),
  (⟨#[99, 117, 116]⟩, ⟨#[114]⟩, ⟨#[114]⟩, ⟨#[]⟩),
  (⟨#[102, 97, 105, 108]⟩, ⟨#[]⟩, ⟨#[]⟩, ⟨#[]⟩)]
/-- an opcode's row -/
def sh (op : Int) : ByteArray × ByteArray × ByteArray × ByteArray := if 1 ≤ op then shapeL.getD op.toNat (⟨#[]⟩, ⟨#[]⟩, ⟨#[]⟩, ⟨#[]⟩) else (⟨#[]⟩, ⟨#[]⟩, ⟨#[]⟩, ⟨#[]⟩)
@[reducible] def shV (op : Int) : Value := .agg #[.string (sh op).1, .string (sh op).2.1, .string (sh op).2.2.1, .string (sh op).2.2.2]
def tabL : List (ByteArray × ByteArray × ByteArray × ByteArray) → List Value
  | [] => []
  | x :: l => .string x.1 :: .string x.2.1 :: .string x.2.2.1 :: .string x.2.2.2 :: tabL l
def tabA : Array Value := (tabL shapeL).toArray
theorem tab_all : tabA.all (·.oneCell') = true := by kernel_rfl
theorem zv75 (w : World) : (zeroValue 91).run Tryz.prog w = .ok (.agg (Array.replicate 104 (.string ⟨#[]⟩))) w := by kernel_rfl
theorem info75 : (Tryz.prog.info? 91).map (·.size) = some 104 := by kernel_rfl
set_option maxRecDepth 100000 in
theorem tab_size : tabA.size = 104 := by kernel_rfl
theorem under75 : ∃ n e, Tryz.prog.underlying 91 = some (.array n e) := ⟨26, 90, by kernel_rfl⟩
theorem results50 : Tryz.f51.results = #[.cell 0 91] := by kernel_rfl
set_option maxHeartbeats 1000000 in
set_option maxRecDepth 100000 in
theorem shapes_any (w : World) : Calls Tryz.prog 51 #[] w fun e w' => e = .returned (.agg tabA) ∧ Below w.heap.size w w' := by
  have h0 := zv75
  go_enter Tryz.func51, Tryz.ntmps51
  go_upto_region 1 with (fail)
  refine wp_region_lit ?_
  refine wpList_val (.agg #[.string ⟨#[103, 101, 116, 95, 118, 97, 114]⟩, .string ⟨#[114, 97]⟩, .string ⟨#[97]⟩, .string ⟨#[114]⟩]) rfl (by kernel_rfl) ?_
  refine wpList_val (.agg #[.string ⟨#[103, 101, 116, 95, 118, 97, 108]⟩, .string ⟨#[114, 97]⟩, .string ⟨#[114, 97]⟩, .string ⟨#[]⟩]) rfl (by kernel_rfl) ?_
  refine wpList_val (.agg #[.string ⟨#[103, 101, 116, 95, 105, 110, 116]⟩, .string ⟨#[97, 110]⟩, .string ⟨#[97]⟩, .string ⟨#[]⟩]) rfl (by kernel_rfl) ?_
  refine wpList_val (.agg #[.string ⟨#[103, 101, 116, 95, 97, 116, 111, 109]⟩, .string ⟨#[97, 115]⟩, .string ⟨#[97]⟩, .string ⟨#[]⟩]) rfl (by kernel_rfl) ?_
  refine wpList_val (.agg #[.string ⟨#[103, 101, 116, 95, 115, 116, 114, 117, 99, 116]⟩, .string ⟨#[97, 102]⟩, .string ⟨#[97]⟩, .string ⟨#[]⟩]) rfl (by kernel_rfl) ?_
  refine wpList_val (.agg #[.string ⟨#[97, 114, 103, 95, 118, 97, 114]⟩, .string ⟨#[114]⟩, .string ⟨#[]⟩, .string ⟨#[114]⟩]) rfl (by kernel_rfl) ?_
  refine wpList_val (.agg #[.string ⟨#[97, 114, 103, 95, 118, 97, 108]⟩, .string ⟨#[114]⟩, .string ⟨#[114]⟩, .string ⟨#[]⟩]) rfl (by kernel_rfl) ?_
  refine wpList_val (.agg #[.string ⟨#[97, 114, 103, 95, 105, 110, 116]⟩, .string ⟨#[110]⟩, .string ⟨#[]⟩, .string ⟨#[]⟩]) rfl (by kernel_rfl) ?_
  refine wpList_val (.agg #[.string ⟨#[97, 114, 103, 95, 97, 116, 111, 109]⟩, .string ⟨#[115]⟩, .string ⟨#[]⟩, .string ⟨#[]⟩]) rfl (by kernel_rfl) ?_
  refine wpList_val (.agg #[.string ⟨#[97, 114, 103, 95, 118, 111, 105, 100]⟩, .string ⟨#[118]⟩, .string ⟨#[]⟩, .string ⟨#[]⟩]) rfl (by kernel_rfl) ?_
  refine wpList_val (.agg #[.string ⟨#[112, 117, 116, 95, 118, 97, 114]⟩, .string ⟨#[114, 97]⟩, .string ⟨#[]⟩, .string ⟨#[114, 97]⟩]) rfl (by kernel_rfl) ?_
  refine wpList_val (.agg #[.string ⟨#[112, 117, 116, 95, 118, 97, 108]⟩, .string ⟨#[114, 97]⟩, .string ⟨#[114]⟩, .string ⟨#[97]⟩]) rfl (by kernel_rfl) ?_
  refine wpList_val (.agg #[.string ⟨#[112, 117, 116, 95, 105, 110, 116]⟩, .string ⟨#[97, 110]⟩, .string ⟨#[]⟩, .string ⟨#[97]⟩]) rfl (by kernel_rfl) ?_
  refine wpList_val (.agg #[.string ⟨#[112, 117, 116, 95, 97, 116, 111, 109]⟩, .string ⟨#[97, 115]⟩, .string ⟨#[]⟩, .string ⟨#[97]⟩]) rfl (by kernel_rfl) ?_
  refine wpList_val (.agg #[.string ⟨#[112, 117, 116, 95, 115, 116, 114, 117, 99, 116]⟩, .string ⟨#[114, 102]⟩, .string ⟨#[]⟩, .string ⟨#[114]⟩]) rfl (by kernel_rfl) ?_
  refine wpList_val (.agg #[.string ⟨#[97, 108, 108, 111, 99, 97, 116, 101]⟩, .string ⟨#[99]⟩, .string ⟨#[]⟩, .string ⟨#[]⟩]) rfl (by kernel_rfl) ?_
  refine wpList_val (.agg #[.string ⟨#[116, 114, 105, 109]⟩, .string ⟨#[99]⟩, .string ⟨#[]⟩, .string ⟨#[]⟩]) rfl (by kernel_rfl) ?_
  refine wpList_val (.agg #[.string ⟨#[102, 114, 101, 101]⟩, .string ⟨#[]⟩, .string ⟨#[]⟩, .string ⟨#[]⟩]) rfl (by kernel_rfl) ?_
  refine wpList_val (.agg #[.string ⟨#[99, 97, 108, 108]⟩, .string ⟨#[112]⟩, .string ⟨#[112]⟩, .string ⟨#[]⟩]) rfl (by kernel_rfl) ?_
  refine wpList_val (.agg #[.string ⟨#[101, 120, 101, 99, 117, 116, 101]⟩, .string ⟨#[112]⟩, .string ⟨#[112]⟩, .string ⟨#[]⟩]) rfl (by kernel_rfl) ?_
  refine wpList_val (.agg #[.string ⟨#[112, 114, 111, 99, 101, 101, 100]⟩, .string ⟨#[]⟩, .string ⟨#[]⟩, .string ⟨#[]⟩]) rfl (by kernel_rfl) ?_
  refine wpList_val (.agg #[.string ⟨#[108, 101, 118, 101, 108]⟩, .string ⟨#[114]⟩, .string ⟨#[]⟩, .string ⟨#[114]⟩]) rfl (by kernel_rfl) ?_
  refine wpList_val (.agg #[.string ⟨#[109, 97, 114, 107]⟩, .string ⟨#[114]⟩, .string ⟨#[]⟩, .string ⟨#[114]⟩]) rfl (by kernel_rfl) ?_
  refine wpList_val (.agg #[.string ⟨#[99, 117, 116]⟩, .string ⟨#[114]⟩, .string ⟨#[114]⟩, .string ⟨#[]⟩]) rfl (by kernel_rfl) ?_
  refine wpList_val (.agg #[.string ⟨#[102, 97, 105, 108]⟩, .string ⟨#[]⟩, .string ⟨#[]⟩, .string ⟨#[]⟩]) rfl (by kernel_rfl) ?_
  refine wpList_val (.agg tabA) rfl (by kernel_rfl) ?_
  refine wpList_store_new 91 (.tmp 0) (.tmp 26) rfl rfl _ tabA (by kernel_rfl) (by kernel_rfl) (by rw [tab_size]; exact info75) (by rw [tab_size]; exact Array.size_replicate) tab_all ?_
  rename_i K hK
  refine hK _ _ ?_
  refine wp_ret ?_
  refine bodyPost_ret (v := .agg tabA) ?_ ?_ ?_
  rotate_left
  · rfl
  · exact ⟨rfl, bAlloc _ _⟩
  exact (results_cell_row results50 _ _ w.heap.size 91 tabA (0, 0) (.array 26 90) (by kernel_rfl) (heap_alloc_new w _) (by kernel_rfl) rfl (by rw [tab_size]; exact info75))
/-- a row out of the table -/
theorem tab_at (op : Int) (h1 : 1 ≤ op) (h2 : op ≤ 25) (w : World) : (Instr.index 91 (.agg tabA) (.int .i64 op)).run Tryz.prog w = .ok (shV op) w := by
  have hc : op = 1 ∨ op = 2 ∨ op = 3 ∨ op = 4 ∨ op = 5 ∨ op = 6 ∨ op = 7 ∨ op = 8 ∨ op = 9 ∨ op = 10 ∨ op = 11 ∨ op = 12 ∨ op = 13 ∨ op = 14 ∨ op = 15 ∨ op = 16 ∨ op = 17 ∨ op = 18 ∨ op = 19 ∨ op = 20 ∨ op = 21 ∨ op = 22 ∨ op = 23 ∨ op = 24 ∨ op = 25 := by omega
  rcases hc with rfl | rfl | rfl | rfl | rfl | rfl | rfl | rfl | rfl | rfl | rfl | rfl | rfl | rfl | rfl | rfl | rfl | rfl | rfl | rfl | rfl | rfl | rfl | rfl | rfl <;> (show Sem.run _ _ _ = Result.ok _ _; kernel_rfl)
end
section
open Go.RowKit

def okOp (op : Int) : Bool := decide (1 ≤ op) && decide (op ≤ 25)
theorem zv53 (w : World) : (zeroValue 90).run Tryz.prog w = .ok (.agg #[.string ⟨#[]⟩, .string ⟨#[]⟩, .string ⟨#[]⟩, .string ⟨#[]⟩]) w := by kernel_rfl
theorem sh_out {op : Int} (h : okOp op = false) : sh op = (⟨#[]⟩, ⟨#[]⟩, ⟨#[]⟩, ⟨#[]⟩) := by
  unfold sh
  split
  · rename_i h1
    have : 25 < op := by simp [okOp, h1] at h; omega
    rw [List.getD_eq_getElem?_getD, List.getElem?_eq_none (show shapeL.length ≤ op.toNat by show 26 ≤ _; omega)]; rfl
  · rfl
set_option maxHeartbeats 400000 in
theorem shapeOf_any (op : Int) (w : World) : Calls Tryz.prog 52 #[.int .i64 op] w fun e w' => e = .returned (.tuple #[shV op, .bool (okOp op)]) ∧ Below w.heap.size w w' := by
  cases ho : okOp op with
  | false =>
    have HS := Lib.hid (sh_out ho)
    have hc : op < 1 ∨ 25 < op := by simp [okOp] at ho; omega
    clear ho
    go_enter Tryz.func52, Tryz.ntmps52
    rcases hc with hc | hc <;> go_wp2_with fail
    all_goals
      refine bodyPost_ret (v := .tuple #[.agg #[.string ⟨#[]⟩, .string ⟨#[]⟩, .string ⟨#[]⟩, .string ⟨#[]⟩], .bool false]) (by simp [results, Tryz.results52, go_sem]) rfl ⟨?_, ?_⟩
      · unfold shV; rw [HS.out]
      · exact bAlloc _ _
  | true =>
    have hc : 1 ≤ op ∧ op ≤ 25 := by simpa [okOp] using ho
    obtain ⟨h1, h2⟩ := hc
    have hx := tab_at op h1 h2
    have hd : decide (op < 1) = false := by simp; omega
    have hd2 : decide (25 < op) = false := by simp; omega
    clear ho
    go_enter Tryz.func52, Tryz.ntmps52
    go_wp2_with fail
    refine (shapes_any _).mono ?_
    rintro e w1 ⟨rfl, hb⟩
    obtain ⟨q0, q1⟩ := bcell hb
    have hz := hb.size
    go_wp2_with fail
    refine bodyPost_ret (v := .tuple #[shV op, .bool true]) (by simp [results, Tryz.results52, go_sem, q0]) rfl ⟨rfl, ?_⟩
    exact (((((bStart hb).setCell (Nat.le_refl _) _).setCell (Nat.le_refl _) _).setCell (Nat.le_refl _) _).setCell (Nat.le_refl _) _)
end
section
open Go.RowKit

def rOk (r : Int) : Bool := r != 0 && (decide (-4096 ≤ r) && decide (r ≤ 4096))
def aOk (a : Int) : Bool := decide (1 ≤ a) && decide (a ≤ 4096)
def nmOk (s : ByteArray) : Bool := decide ((s.size : Int) ≤ 100)
def pdOk (s : ByteArray) (ar n : Int) : Bool :=
  if n = 0 then nmOk s && (decide (0 ≤ ar) && decide (ar ≤ 8)) else s.toList.isEmpty && (decide (1 ≤ n) && (decide (n ≤ 1099511627776) && (decide (0 ≤ ar) && decide (ar ≤ 4096))))
/-- is a field of an instruction within its bounds? -/
def fieldOk (x : In) (c : UInt8) : Bool :=
  if c = 114 then rOk x.r else if c = 97 then aOk x.a else if c = 118 then decide (1 ≤ x.n) && decide (x.n ≤ 8) else if c = 99 then decide (0 ≤ x.n) && decide (x.n ≤ 4096)
  else if c = 115 then nmOk x.nm else if c = 102 then nmOk x.nm && (decide (1 ≤ x.ar) && decide (x.ar ≤ 8)) else if c = 112 then pdOk x.nm x.ar x.n else true
/-- an instruction with one field more of another one -/
def wantStep (x y : In) (c : UInt8) : In :=
  if c = 114 then { y with r := x.r } else if c = 97 then { y with a := x.a } else if c = 110 ∨ c = 118 ∨ c = 99 then { y with n := x.n }
  else if c = 115 then { y with nm := x.nm } else if c = 102 then { y with nm := x.nm, ar := x.ar } else if c = 112 then { y with nm := x.nm, ar := x.ar, n := x.n } else y
def wantOf (x : In) (l : List UInt8) : In := l.foldl (wantStep x) ⟨x.op, 0, 0, 0, ⟨#[]⟩, 0⟩
def sameI (x y : In) : Bool := x.op == y.op && (x.r == y.r && (x.a == y.a && (x.n == y.n && (x.nm.toList == y.nm.toList && x.ar == y.ar))))
def flds (op : Int) : List UInt8 := (sh op).2.1.data.toList
/-- is an instruction well-formed? -/
def fo (x : In) : Bool := (okOp x.op && (flds x.op).all (fieldOk x)) && sameI x (wantOf x (flds x.op))
/-- the registers that some fields name -/
def regStep (x : In) (l : List Int) (c : UInt8) : List Int :=
  if c = 114 then l ++ [x.r] else if c = 97 then (if l.contains x.a then l else l ++ [x.a]) else if c = 112 then l ++ (List.range x.ar.toNat).map (fun i : Nat => (i : Int) + 1) else l
def regsOf (x : In) (s : List UInt8) : List Int := if fo x then s.foldl (regStep x) [] else []
def rdOf (x : In) : List Int := regsOf x (sh x.op).2.2.1.data.toList
def wrOf (x : In) : List Int := regsOf x (sh x.op).2.2.2.data.toList

theorem op_cases {op : Int} (h : okOp op = true) : op = 1 ∨ op = 2 ∨ op = 3 ∨ op = 4 ∨ op = 5 ∨ op = 6 ∨ op = 7 ∨ op = 8 ∨ op = 9 ∨ op = 10 ∨ op = 11 ∨ op = 12 ∨ op = 13 ∨ op = 14 ∨ op = 15 ∨ op = 16 ∨ op = 17 ∨ op = 18 ∨ op = 19 ∨ op = 20 ∨ op = 21 ∨ op = 22 ∨ op = 23 ∨ op = 24 ∨ op = 25 := by
  simp [okOp] at h; omega
/-- the bytes of the fields -/
theorem flds_mem (op : Int) : ∀ c ∈ flds op, c = 114 ∨ c = 97 ∨ c = 110 ∨ c = 118 ∨ c = 99 ∨ c = 115 ∨ c = 102 ∨ c = 112 := by
  cases h : okOp op with
  | false => unfold flds; rw [sh_out h]; intro c hc; cases hc
  | true => rcases op_cases h with rfl | rfl | rfl | rfl | rfl | rfl | rfl | rfl | rfl | rfl | rfl | rfl | rfl | rfl | rfl | rfl | rfl | rfl | rfl | rfl | rfl | rfl | rfl | rfl | rfl <;> decide
end
end Go.Proofs.YtbipeakinmbdiaaGreatDoor
