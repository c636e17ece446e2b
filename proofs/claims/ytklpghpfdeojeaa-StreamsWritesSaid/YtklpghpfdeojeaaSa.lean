/-
  Small laws on memory, without any program: files, open streams, the state; how they are kept.
-/
import Derived.WalkKit
import Derived.WalkSpells
import Derived.Deep.Draws
import Derived.Lib.Hide
namespace Go.Proofs.Ytklpghpfdeojeaa
open Go.RowKit

/-- a file -/
structure F where
  name : ByteArray
  text : ByteArray
/-- an open stream -/
structure G where
  id : Int
  file : ByteArray
  mode : Int
  pos : Int
  alias_ : ByteArray
  eof : Int
  past : Bool
/-- the state -/
structure Sm where
  files : List F
  opn : List G
  inp : Int
  out : Int
  nxt : Int
@[reducible] def F.v (x : F) : Value := .agg #[.string x.name, .string x.text]
@[reducible] def G.v (x : G) : Value := .agg #[.int .i64 x.id, .string x.file, .int .i64 x.mode, .int .i64 x.pos, .string x.alias_, .int .i64 x.eof, .bool x.past]

/-- the cells of a file, of a stream -/
def FCells (w : World) (b o : Nat) (x : F) : Prop :=
  w.cell? ⟨b, o, none⟩ = some (.string x.name) ∧ w.cell? ⟨b, o + 1, none⟩ = some (.string x.text)
def GCells (w : World) (b o : Nat) (x : G) : Prop :=
  w.cell? ⟨b, o, none⟩ = some (.int .i64 x.id) ∧ w.cell? ⟨b, o + 1, none⟩ = some (.string x.file) ∧ w.cell? ⟨b, o + 2, none⟩ = some (.int .i64 x.mode) ∧ w.cell? ⟨b, o + 3, none⟩ = some (.int .i64 x.pos) ∧
  w.cell? ⟨b, o + 4, none⟩ = some (.string x.alias_) ∧ w.cell? ⟨b, o + 5, none⟩ = some (.int .i64 x.eof) ∧ w.cell? ⟨b, o + 6, none⟩ = some (.bool x.past)
def FilesAt (w : World) (B : Nat) (A : Option Addr) (n : Nat) (l : List F) : Prop :=
  (l.length = n ∧ n ≤ 4398046511104) ∧ (0 < n → ∃ b off, A = some ⟨b, off, none⟩ ∧ b < B ∧ ∀ i x, l[i]? = some x → FCells w b (off + i * 2) x)
def OpensAt (w : World) (B : Nat) (A : Option Addr) (n : Nat) (l : List G) : Prop :=
  (l.length = n ∧ n ≤ 1954687338268) ∧ (0 < n → ∃ b off, A = some ⟨b, off, none⟩ ∧ b < B ∧ ∀ i x, l[i]? = some x → GCells w b (off + i * 7) x)
@[reducible] def smV (A0 A1 : Option Addr) (c0 c1 : Nat) (s : Sm) : Value := .agg #[.slice A0 s.files.length c0, .slice A1 s.opn.length c1, .int .i64 s.inp, .int .i64 s.out, .int .i64 s.nxt]
/-- a slice's capacity -/
def CapOk (A : Option Addr) (n c : Nat) : Prop := n ≤ c ∧ (A = none → c = 0)
/-- a state by value -/
def SmAt (w : World) (B : Nat) (v : Value) (s : Sm) : Prop :=
  ∃ A0 c0 A1 c1, v = smV A0 A1 c0 c1 s ∧ (CapOk A0 s.files.length c0 ∧ CapOk A1 s.opn.length c1) ∧ FilesAt w B A0 s.files.length s.files ∧ OpensAt w B A1 s.opn.length s.opn

section
variable {w w' : World} {B B' n : Nat} {A : Option Addr}
theorem FCells.below {b o : Nat} {x : F} (h : FCells w b o x) (hB : b < B) (hb : Below B w w') : FCells w' b o x :=
  ⟨(hb.cell (p := ⟨b, _, none⟩) hB).trans h.1, (hb.cell (p := ⟨b, _, none⟩) hB).trans h.2⟩
theorem GCells.below {b o : Nat} {x : G} (h : GCells w b o x) (hB : b < B) (hb : Below B w w') : GCells w' b o x := by
  obtain ⟨h0, h1, h2, h3, h4, h5, h6⟩ := h
  have hc : ∀ o, w'.cell? ⟨b, o, none⟩ = w.cell? ⟨b, o, none⟩ := fun o => hb.cell (p := ⟨b, o, none⟩) hB
  exact ⟨(hc _).trans h0, (hc _).trans h1, (hc _).trans h2, (hc _).trans h3, (hc _).trans h4, (hc _).trans h5, (hc _).trans h6⟩
theorem FilesAt.at {l : List F} (h : FilesAt w B A n l) {i : Nat} (hi : i < n) :
    ∃ b off x, A = some ⟨b, off, none⟩ ∧ b < B ∧ l[i]? = some x ∧ FCells w b (off + i * 2) x := by
  obtain ⟨⟨hn, _⟩, h⟩ := h
  obtain ⟨b, off, e, hb, hc⟩ := h (by omega)
  have hx : l[i]? = some (l[i]'(by omega)) := List.getElem?_eq_getElem _
  exact ⟨b, off, _, e, hb, hx, hc i _ hx⟩
theorem OpensAt.at {l : List G} (h : OpensAt w B A n l) {i : Nat} (hi : i < n) :
    ∃ b off x, A = some ⟨b, off, none⟩ ∧ b < B ∧ l[i]? = some x ∧ GCells w b (off + i * 7) x := by
  obtain ⟨⟨hn, _⟩, h⟩ := h
  obtain ⟨b, off, e, hb, hc⟩ := h (by omega)
  have hx : l[i]? = some (l[i]'(by omega)) := List.getElem?_eq_getElem _
  exact ⟨b, off, _, e, hb, hx, hc i _ hx⟩
theorem FilesAt.below {l : List F} (h : FilesAt w B A n l) (hb : Below B w w') : FilesAt w' B A n l := ⟨h.1, fun hn => by
  obtain ⟨b, off, e, hlt, hc⟩ := h.2 hn
  exact ⟨b, off, e, hlt, fun i x hx => (hc i x hx).below hlt hb⟩⟩
theorem FilesAt.more {l : List F} (h : FilesAt w B A n l) (hB : B ≤ B') : FilesAt w B' A n l := ⟨h.1, fun hn => by
  obtain ⟨b, off, e, hlt, hc⟩ := h.2 hn
  exact ⟨b, off, e, by omega, hc⟩⟩
theorem OpensAt.below {l : List G} (h : OpensAt w B A n l) (hb : Below B w w') : OpensAt w' B A n l := ⟨h.1, fun hn => by
  obtain ⟨b, off, e, hlt, hc⟩ := h.2 hn
  exact ⟨b, off, e, hlt, fun i x hx => (hc i x hx).below hlt hb⟩⟩
theorem OpensAt.more {l : List G} (h : OpensAt w B A n l) (hB : B ≤ B') : OpensAt w B' A n l := ⟨h.1, fun hn => by
  obtain ⟨b, off, e, hlt, hc⟩ := h.2 hn
  exact ⟨b, off, e, by omega, hc⟩⟩
theorem FilesAt.nil (w : World) (B : Nat) (A : Option Addr) : FilesAt w B A 0 [] := ⟨⟨rfl, by omega⟩, fun h => absurd h (by omega)⟩
theorem OpensAt.nil (w : World) (B : Nat) (A : Option Addr) : OpensAt w B A 0 [] := ⟨⟨rfl, by omega⟩, fun h => absurd h (by omega)⟩
theorem SmAt.below {v : Value} {s : Sm} (h : SmAt w B v s) (hb : Below B w w') : SmAt w' B v s := by
  obtain ⟨A0, c0, A1, c1, e, hcap, h0, h1⟩ := h
  exact ⟨A0, c0, A1, c1, e, hcap, h0.below hb, h1.below hb⟩
theorem SmAt.more {v : Value} {s : Sm} (h : SmAt w B v s) (hB : B ≤ B') : SmAt w B' v s := by
  obtain ⟨A0, c0, A1, c1, e, hcap, h0, h1⟩ := h
  exact ⟨A0, c0, A1, c1, e, hcap, h0.more hB, h1.more hB⟩
/-- from the world of a call to a later one -/
theorem FilesAt.next {l : List F} (h : FilesAt w w.heap.size A n l) (hb : Below w.heap.size w w') : FilesAt w' w'.heap.size A n l := (h.below hb).more hb.size
theorem OpensAt.next {l : List G} (h : OpensAt w w.heap.size A n l) (hb : Below w.heap.size w w') : OpensAt w' w'.heap.size A n l := (h.below hb).more hb.size
theorem SmAt.next {v : Value} {s : Sm} (h : SmAt w w.heap.size v s) (hb : Below w.heap.size w w') : SmAt w' w'.heap.size v s := (h.below hb).more hb.size
end

theorem bNext {W w1 w2 : World} (h : Below W.heap.size W w1) (k : Below w1.heap.size w1 w2) : Below W.heap.size W w2 := h.trans (k.mono h.size)
theorem bStart {w : World} {o : Obj} {w1 : World} (h : Below (w.alloc o).heap.size (w.alloc o) w1) : Below w.heap.size w w1 := ((Below.refl _ _).alloc (Nat.le_refl _) _).trans (h.mono (by simp))
theorem bAlloc (w : World) (o : Obj) : Below w.heap.size w (w.alloc o) := (Below.refl _ _).alloc (Nat.le_refl _) _
theorem bDrewN {B : Nat} {w w1 : World} (h : Below B w w1) (n : Nat) : Below B w (w1.drewN n) := ⟨h.os, h.tape, h.output, h.size, h.block⟩
theorem bDrew (w : World) : Below w.heap.size w w.drew := ⟨rfl, rfl, rfl, Nat.le_refl _, fun _ _ => rfl⟩
theorem ret_bool {a b : Bool} (h : a = b) : Ending.returned (.bool a) = .returned (.bool b) := by rw [h]
theorem ret_int {k : IntKind} {a b : Int} (h : a = b) : Ending.returned (.int k a) = .returned (.int k b) := by rw [h]

/-- a block of cells that can be written -/
def Blk (w : World) (g : Nat) (t : TypeId) (cs : Array Value) : Prop := w.heap[g]? = some (.cells cs t (0, 0))
section
variable {w w' : World} {g : Nat} {t : TypeId} {cs : Array Value}
theorem Blk.lt (h : Blk w g t cs) : g < w.heap.size := by
  rcases Nat.lt_or_ge g w.heap.size with h' | h'
  · exact h'
  · unfold Blk at h; rw [Array.getElem?_eq_none h'] at h; cases h
theorem Blk.cell (h : Blk w g t cs) (i : Nat) : w.cell? ⟨g, i, none⟩ = cs[i]? := cell_of_row w g i cs t (0, 0) h
theorem Blk.frozen (h : Blk w g t cs) (i : Nat) : w.frozen? ⟨g, i, none⟩ = false := frozen_of_row w g i cs t h
theorem Blk.new (w : World) (t : TypeId) (cs : Array Value) : Blk (w.alloc (.cells cs t)) w.heap.size t cs := heap_alloc_new w _
theorem Blk.alloc (h : Blk w g t cs) (o : Obj) : Blk (w.alloc o) g t cs := (Below.heap_alloc w o g h.lt).trans h
theorem Blk.below {B : Nat} (h : Blk w g t cs) (hb : Below B w w') (hg : g < B) : Blk w' g t cs := (hb.block g hg).trans h
theorem Blk.next (h : Blk w g t cs) (hb : Below w.heap.size w w') : Blk w' g t cs := h.below hb h.lt
end

/-- the first element that is selected -/
def idxI {α : Type} (l : List α) (p : α → Bool) : Int := match l.findIdx? p with | some k => (k : Int) | none => -1
theorem idxI_yes {α : Type} {l : List α} {p : α → Bool} {x : α} {k : Nat} (hk : l[k]? = some x) (e : p x = true) (hp : ∀ (j : Nat) z, j < k → l[j]? = some z → p z = false) : idxI l p = k := by
  unfold idxI
  obtain ⟨hlt, hx⟩ := List.getElem?_eq_some_iff.1 hk
  rw [List.findIdx?_eq_some_iff_getElem.2 ⟨hlt, by rw [hx]; exact e, fun j hj => by simpa using hp j _ hj (List.getElem?_eq_getElem (by omega))⟩]
theorem idxI_no {α : Type} {l : List α} {p : α → Bool} (hp : ∀ (j : Nat) z, l[j]? = some z → p z = false) : idxI l p = -1 := by
  unfold idxI
  rw [List.findIdx?_eq_none_iff.2 fun x hx => by obtain ⟨j, hj⟩ := List.mem_iff_getElem?.1 hx; exact hp j x hj]
theorem idxI_cases {α : Type} (l : List α) (p : α → Bool) : (idxI l p = -1 ∧ ∀ x ∈ l, p x = false) ∨ ∃ (k : Nat) (x : α), idxI l p = k ∧ k < l.length ∧ l[k]? = some x ∧ p x = true := by
  unfold idxI
  cases h : l.findIdx? p with
  | none => exact .inl ⟨rfl, List.findIdx?_eq_none_iff.1 h⟩
  | some k =>
    obtain ⟨hlt, he, _⟩ := List.findIdx?_eq_some_iff_getElem.1 h
    exact .inr ⟨k, l[k], rfl, hlt, List.getElem?_eq_getElem hlt, he⟩
@[reducible] def fileP (name : ByteArray) (x : F) : Bool := x.name.toList == name.toList
@[reducible] def idP (id : Int) (x : G) : Bool := x.id == id
end Go.Proofs.Ytklpghpfdeojeaa
