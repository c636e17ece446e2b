/-
  Small laws on memory: instructions, lists of instructions and of integers; how they are kept.
-/
import Derived.WalkKit
import Derived.WalkSpells
import Derived.Deep.Draws
import Derived.Lib.Hide
import Derived.OwnWalk
import Derived.Maps.AppendAt
import Derived.Deep.AppendLies
import Derived.Test.YteffpeokialeiaaProg
namespace Go.Proofs.Yteffpeokialeiaa
open Go.RowKit

/-- an instruction -/
structure In where
  op : Int
  r : Int
  a : Int
  n : Int
  nm : ByteArray
  ar : Int
@[reducible] def In.v (x : In) : Value := .agg #[.int .i64 x.op, .int .i64 x.r, .int .i64 x.a, .int .i64 x.n, .string x.nm, .int .i64 x.ar]
/-- the cells of an instruction -/
def ICells (w : World) (b o : Nat) (x : In) : Prop :=
  w.cell? ⟨b, o, none⟩ = some (.int .i64 x.op) ∧ w.cell? ⟨b, o + 1, none⟩ = some (.int .i64 x.r) ∧ w.cell? ⟨b, o + 2, none⟩ = some (.int .i64 x.a) ∧ w.cell? ⟨b, o + 3, none⟩ = some (.int .i64 x.n) ∧
  w.cell? ⟨b, o + 4, none⟩ = some (.string x.nm) ∧ w.cell? ⟨b, o + 5, none⟩ = some (.int .i64 x.ar)
def InsAt (w : World) (B : Nat) (A : Option Addr) (n : Nat) (l : List In) : Prop :=
  (l.length = n ∧ n ≤ 3000000000000) ∧ (0 < n → ∃ b off, A = some ⟨b, off, none⟩ ∧ b < B ∧ ∀ i x, l[i]? = some x → ICells w b (off + i * 6) x)
def IntsAt (w : World) (B : Nat) (A : Option Addr) (n : Nat) (l : List Int) : Prop :=
  (l.length = n ∧ n ≤ 1000000) ∧ (0 < n → ∃ b off, A = some ⟨b, off, none⟩ ∧ b < B ∧ ∀ i x, l[i]? = some x → w.cell? ⟨b, off + i, none⟩ = some (.int .i64 x))

section
variable {w w' : World} {B B' n : Nat} {A : Option Addr}
theorem ICells.below {b o : Nat} {x : In} (h : ICells w b o x) (hB : b < B) (hb : Below B w w') : ICells w' b o x := by
  obtain ⟨h0, h1, h2, h3, h4, h5⟩ := h
  have hc : ∀ o, w'.cell? ⟨b, o, none⟩ = w.cell? ⟨b, o, none⟩ := fun o => hb.cell (p := ⟨b, o, none⟩) hB
  exact ⟨(hc _).trans h0, (hc _).trans h1, (hc _).trans h2, (hc _).trans h3, (hc _).trans h4, (hc _).trans h5⟩
theorem InsAt.at {l : List In} (h : InsAt w B A n l) {i : Nat} (hi : i < n) :
    ∃ b off x, A = some ⟨b, off, none⟩ ∧ b < B ∧ l[i]? = some x ∧ ICells w b (off + i * 6) x := by
  obtain ⟨⟨hn, _⟩, h⟩ := h
  obtain ⟨b, off, e, hb, hc⟩ := h (by omega)
  have hx : l[i]? = some (l[i]'(by omega)) := List.getElem?_eq_getElem _
  exact ⟨b, off, _, e, hb, hx, hc i _ hx⟩
theorem IntsAt.at {l : List Int} (h : IntsAt w B A n l) {i : Nat} (hi : i < n) :
    ∃ b off x, A = some ⟨b, off, none⟩ ∧ b < B ∧ l[i]? = some x ∧ w.cell? ⟨b, off + i, none⟩ = some (.int .i64 x) := by
  obtain ⟨⟨hn, _⟩, h⟩ := h
  obtain ⟨b, off, e, hb, hc⟩ := h (by omega)
  have hx : l[i]? = some (l[i]'(by omega)) := List.getElem?_eq_getElem _
  exact ⟨b, off, _, e, hb, hx, hc i _ hx⟩
theorem InsAt.below {l : List In} (h : InsAt w B A n l) (hb : Below B w w') : InsAt w' B A n l := ⟨h.1, fun hn => by
  obtain ⟨b, off, e, hlt, hc⟩ := h.2 hn
  exact ⟨b, off, e, hlt, fun i x hx => (hc i x hx).below hlt hb⟩⟩
theorem InsAt.more {l : List In} (h : InsAt w B A n l) (hB : B ≤ B') : InsAt w B' A n l := ⟨h.1, fun hn => by
  obtain ⟨b, off, e, hlt, hc⟩ := h.2 hn
  exact ⟨b, off, e, by omega, hc⟩⟩
theorem InsAt.nil (w : World) (B : Nat) (A : Option Addr) : InsAt w B A 0 [] := ⟨⟨rfl, by omega⟩, fun h => absurd h (by omega)⟩
theorem InsAt.next {l : List In} (h : InsAt w w.heap.size A n l) (hb : Below w.heap.size w w') : InsAt w' w'.heap.size A n l := (h.below hb).more hb.size
theorem InsAt.len {l : List In} (h : InsAt w B A n l) : l.length = n := h.1.1
theorem IntsAt.below {l : List Int} (h : IntsAt w B A n l) (hb : Below B w w') : IntsAt w' B A n l := ⟨h.1, fun hn => by
  obtain ⟨b, off, e, hlt, hc⟩ := h.2 hn
  exact ⟨b, off, e, hlt, fun i x hx => (hb.cell (p := ⟨b, _, none⟩) hlt).trans (hc i x hx)⟩⟩
theorem IntsAt.more {l : List Int} (h : IntsAt w B A n l) (hB : B ≤ B') : IntsAt w B' A n l := ⟨h.1, fun hn => by
  obtain ⟨b, off, e, hlt, hc⟩ := h.2 hn
  exact ⟨b, off, e, by omega, hc⟩⟩
theorem IntsAt.nil (w : World) (B : Nat) (A : Option Addr) : IntsAt w B A 0 [] := ⟨⟨rfl, by omega⟩, fun h => absurd h (by omega)⟩
theorem IntsAt.next {l : List Int} (h : IntsAt w w.heap.size A n l) (hb : Below w.heap.size w w') : IntsAt w' w'.heap.size A n l := (h.below hb).more hb.size
theorem IntsAt.len {l : List Int} (h : IntsAt w B A n l) : l.length = n := h.1.1
end

theorem bNext {W w1 w2 : World} (h : Below W.heap.size W w1) (k : Below w1.heap.size w1 w2) : Below W.heap.size W w2 := h.trans (k.mono h.size)
theorem bStart {w : World} {o : Obj} {w1 : World} (h : Below (w.alloc o).heap.size (w.alloc o) w1) : Below w.heap.size w w1 := ((Below.refl _ _).alloc (Nat.le_refl _) _).trans (h.mono (by simp))
theorem bAlloc (w : World) (o : Obj) : Below w.heap.size w (w.alloc o) := (Below.refl _ _).alloc (Nat.le_refl _) _
theorem bDrewN {B : Nat} {w w1 : World} (h : Below B w w1) (n : Nat) : Below B w (w1.drewN n) := ⟨h.os, h.tape, h.output, h.size, h.block⟩
theorem bDrew (w : World) : Below w.heap.size w w.drew := ⟨rfl, rfl, rfl, Nat.le_refl _, fun _ _ => rfl⟩
theorem ret_bool {a b : Bool} (h : a = b) : Ending.returned (.bool a) = .returned (.bool b) := by rw [h]
theorem ret_int {k : IntKind} {a b : Int} (h : a = b) : Ending.returned (.int k a) = .returned (.int k b) := by rw [h]
theorem bcell {W w1 : World} (hb : Below W.heap.size W w1) : (∀ b o, b < W.heap.size → w1.cell? ⟨b, o, none⟩ = W.cell? ⟨b, o, none⟩) ∧ (∀ b o, b < W.heap.size → w1.frozen? ⟨b, o, none⟩ = W.frozen? ⟨b, o, none⟩) :=
  ⟨fun b o h => hb.cell (p := ⟨b, o, none⟩) h, fun b o h => hb.frozen (p := ⟨b, o, none⟩) h⟩

/-- a block of cells that can be written -/
def Blk (w : World) (g : Nat) (t : TypeId) (cs : Array Value) : Prop := w.heap[g]? = some (.cells cs t (0, 0))
section
variable {w w' : World} {g : Nat} {t : TypeId} {cs : Array Value}
theorem Blk.lt (h : Blk w g t cs) : g < w.heap.size := by
  rcases Nat.lt_or_ge g w.heap.size with h' | h'
  · exact h'
  · unfold Blk at h; rw [Array.getElem?_eq_none h'] at h; cases h
theorem Blk.cell (h : Blk w g t cs) (i : Nat) : w.cell? ⟨g, i, none⟩ = cs[i]? := cell_of_row w g i cs t (0, 0) h
theorem Blk.frozen (h : Blk w g t cs) (i : Nat) : w.frozen? ⟨g, i, none⟩ = false := frozen_of_row w g i cs t h
theorem Blk.new (w : World) (t : TypeId) (cs : Array Value) : Blk (w.alloc (.cells cs t)) w.heap.size t cs := heap_alloc_new w _
theorem Blk.alloc (h : Blk w g t cs) (o : Obj) : Blk (w.alloc o) g t cs := (Below.heap_alloc w o g h.lt).trans h
theorem Blk.below {B : Nat} (h : Blk w g t cs) (hb : Below B w w') (hg : g < B) : Blk w' g t cs := (hb.block g hg).trans h
theorem Blk.next (h : Blk w g t cs) (hb : Below w.heap.size w w') : Blk w' g t cs := h.below hb h.lt
theorem Blk.grown {row : Option Nat} (h : Blk w g t cs) (hb : w.grownBy w' row) (hg : row ≠ some g) : Blk w' g t cs := (hb.block g h.lt (fun e => hg e.symm)).trans h
theorem Blk.set_ (h : Blk w g t cs) (i : Nat) (u : Value) : Blk (w.setCell ⟨g, i, none⟩ u) g t (cs.setIfInBounds i u) := heap_setCell_same w g i cs t u h
theorem Blk.far (h : Blk w g t cs) {p : Addr} (hp : g ≠ p.block) (u : Value) : Blk (w.setCell p u) g t cs := (heap_setCell_other w p g u hp).trans h
end
section
variable {w w' : World} {base n e size : Nat} {v : Value} {xs : List Value}
/-- a slice's capacity -/
def CapOk (A : Option Addr) (n c : Nat) : Prop := n ≤ c ∧ (A = none → c = 0)
theorem own_form (h : w.ownsRow base e size v n xs) : ∃ A c, v = .slice A n c ∧ CapOk A n c := by
  rcases h.2 with ⟨rfl, rfl⟩ | ⟨g, cap, cur, rfl, _, _, hc, _⟩
  · exact ⟨_, _, rfl, Nat.le_refl _, fun _ => rfl⟩
  · exact ⟨_, _, rfl, hc, fun e => by cases e⟩
theorem own_stay (h : w.ownsRow base e size v n xs) (hk : ∀ g, v.ownBlock = some g → w'.heap[g]? = w.heap[g]?) : w'.ownsRow base e size v n xs := by
  refine ⟨h.1, ?_⟩
  rcases h.2 with h2 | ⟨g, cap, cur, hv, hg, hh, r⟩
  · exact .inl h2
  · exact .inr ⟨g, cap, cur, hv, hg, (hk g (by rw [hv]; rfl)).trans hh, r⟩
theorem own_lt (h : w.ownsRow base e size v n xs) {g : Nat} (hg : v.ownBlock = some g) : base ≤ g ∧ g < w.heap.size := by
  rcases h.2 with ⟨rfl, rfl⟩ | ⟨g', cap, cur, rfl, hb, hh, _⟩
  · simp [Value.ownBlock] at hg
  · simp [Value.ownBlock] at hg; subst hg
    exact ⟨hb, (Array.getElem?_eq_some_iff.1 hh).1⟩
theorem own_next (h : w.ownsRow base e size v n xs) (hb : Below w.heap.size w w') : w'.ownsRow base e size v n xs := own_stay h fun g hg => hb.block g (own_lt h hg).2
theorem own_base {base' : Nat} (h : w.ownsRow base e size v n xs) (hb : base' ≤ base) : w.ownsRow base' e size v n xs :=
  ⟨h.1, h.2.elim Or.inl fun ⟨g, cap, cur, hv, hg, r⟩ => Or.inr ⟨g, cap, cur, hv, Nat.le_trans hb hg, r⟩⟩
theorem own_ty (h : w.ownsRow base e size v n xs) {g : Nat} (hg : v.ownBlock = some g) : ∃ cs, w.heap[g]? = some (.cells cs e (0, 0)) := by
  rcases h.2 with ⟨rfl, rfl⟩ | ⟨g', cap, cur, rfl, _, hh, _⟩
  · simp [Value.ownBlock] at hg
  · simp [Value.ownBlock] at hg; subst hg; exact ⟨cur, hh⟩
end
/-- the cells of integers, of instructions -/
def iCs (l : List Int) : List Value := l.map (.int .i64)
theorem iCs_len (l : List Int) : (iCs l).length = l.length := List.length_map _
theorem own_ints {w : World} {base n c : Nat} {A : Option Addr} {l : List Int} (h : w.ownsRow base 3 1 (.slice A n c) n (iCs l)) (hn : n ≤ 1000000) : IntsAt w w.heap.size A n l := by
  refine ⟨⟨by have := h.1; rw [iCs_len] at this; omega, hn⟩, fun h0 => ?_⟩
  rcases h.2 with ⟨_, h1⟩ | ⟨g, cap, cur, hv, _, hh, _⟩
  · omega
  · injection hv with e1 _ e3
    subst e1 e3
    refine ⟨g, 0, rfl, (Array.getElem?_eq_some_iff.1 hh).1, fun i x hx => ?_⟩
    have hj : (iCs l)[i]? = some (.int .i64 x) := by unfold iCs; rw [List.getElem?_map, hx]; rfl
    have hlt := (List.getElem?_eq_some_iff.1 hx).1
    have hl := h.1
    rw [iCs_len] at hl
    rw [Nat.zero_add]
    exact (h.cellAt i (by omega)).trans hj
def aCs : List In → List Value
  | [] => []
  | x :: l => .int .i64 x.op :: .int .i64 x.r :: .int .i64 x.a :: .int .i64 x.n :: .string x.nm :: .int .i64 x.ar :: aCs l
theorem aCs_len (l : List In) : (aCs l).length = l.length * 6 := by
  induction l with
  | nil => rfl
  | cons x t ih => simp only [aCs, List.length_cons, ih]; omega
theorem aCs_app (l m : List In) : aCs (l ++ m) = aCs l ++ aCs m := by
  induction l with
  | nil => rfl
  | cons x t ih => simp only [List.cons_append, aCs, ih]
theorem aCs_at {l : List In} {i : Nat} {x : In} (h : l[i]? = some x) :
    (aCs l)[i * 6]? = some (.int .i64 x.op) ∧ (aCs l)[i * 6 + 1]? = some (.int .i64 x.r) ∧ (aCs l)[i * 6 + 2]? = some (.int .i64 x.a) ∧ (aCs l)[i * 6 + 3]? = some (.int .i64 x.n) ∧ (aCs l)[i * 6 + 4]? = some (.string x.nm) ∧ (aCs l)[i * 6 + 5]? = some (.int .i64 x.ar) := by
  induction l generalizing i with
  | nil => simp at h
  | cons y t ih =>
    cases i with
    | zero => simp at h; subst h; simp [aCs]
    | succ i =>
      simp at h
      have := ih h
      rw [show (i + 1) * 6 = i * 6 + 1 + 1 + 1 + 1 + 1 + 1 by omega]
      simpa [aCs] using this
theorem own_ins {w : World} {base n c : Nat} {A : Option Addr} {l : List In} (h : w.ownsRow base 23 6 (.slice A n c) n (aCs l)) (hn : n ≤ 1000000) : InsAt w w.heap.size A n l := by
  have hl := h.1
  rw [aCs_len] at hl
  refine ⟨⟨by omega, by omega⟩, fun h0 => ?_⟩
  rcases h.2 with ⟨_, h1⟩ | ⟨g, cap, cur, hv, _, hh, _⟩
  · omega
  · injection hv with e1 _ e3
    subst e1 e3
    refine ⟨g, 0, rfl, (Array.getElem?_eq_some_iff.1 hh).1, fun i x hx => ?_⟩
    obtain ⟨a0, a1, a2, a3, a4, a5⟩ := aCs_at hx
    have hlt := (List.getElem?_eq_some_iff.1 hx).1
    have hc : ∀ j u, (aCs l)[j]? = some u → w.cell? ⟨g, j, none⟩ = some u := fun j u hj =>
      (h.cellAt j (by have := (List.getElem?_eq_some_iff.1 hj).1; rw [aCs_len] at this; omega)).trans hj
    simp only [ICells, Nat.zero_add]
    exact ⟨hc _ _ a0, hc _ _ a1, hc _ _ a2, hc _ _ a3, hc _ _ a4, hc _ _ a5⟩
/-- an instruction in a variable -/
def BoxI (w : World) (b : Nat) (x : In) : Prop := Blk w b 23 #[.int .i64 x.op, .int .i64 x.r, .int .i64 x.a, .int .i64 x.n, .string x.nm, .int .i64 x.ar]
theorem BoxI.cells {w : World} {b : Nat} {x : In} (h : BoxI w b x) :
    w.cell? ⟨b, 0, none⟩ = some (.int .i64 x.op) ∧ w.cell? ⟨b, 1, none⟩ = some (.int .i64 x.r) ∧ w.cell? ⟨b, 2, none⟩ = some (.int .i64 x.a) ∧ w.cell? ⟨b, 3, none⟩ = some (.int .i64 x.n) ∧
    w.cell? ⟨b, 4, none⟩ = some (.string x.nm) ∧ w.cell? ⟨b, 5, none⟩ = some (.int .i64 x.ar) :=
  ⟨h.cell 0, h.cell 1, h.cell 2, h.cell 3, h.cell 4, h.cell 5⟩
theorem BoxI.open_ {w : World} {b : Nat} {x : In} (h : BoxI w b x) :
    w.frozen? ⟨b, 0, none⟩ = false ∧ w.frozen? ⟨b, 1, none⟩ = false ∧ w.frozen? ⟨b, 2, none⟩ = false ∧ w.frozen? ⟨b, 3, none⟩ = false ∧ w.frozen? ⟨b, 4, none⟩ = false ∧ w.frozen? ⟨b, 5, none⟩ = false :=
  ⟨h.frozen 0, h.frozen 1, h.frozen 2, h.frozen 3, h.frozen 4, h.frozen 5⟩
theorem BoxI.new (w : World) (x : In) : BoxI (w.alloc (.cells #[.int .i64 x.op, .int .i64 x.r, .int .i64 x.a, .int .i64 x.n, .string x.nm, .int .i64 x.ar] 23)) w.heap.size x := Blk.new _ _ _
end Go.Proofs.Yteffpeokialeiaa
