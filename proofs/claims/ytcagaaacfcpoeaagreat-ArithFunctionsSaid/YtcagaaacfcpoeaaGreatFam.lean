/-
  Small laws on memory, without any program: slices of integers and of keys that read as lists, and how they are kept. A family of rows of numbers that a call owns, no two in one block; how it is kept, and how one of them grows.
-/
import Derived.WalkKit
import Derived.WalkSpells
import Derived.Deep.Draws
namespace Go.Proofs.YtcagaaacfcpoeaaGreat
section
open Go.RowKit

/-- a slice of n integers, as a list -/
def IntsAt (w : World) (B : Nat) (A : Option Addr) (n : Nat) (l : List Int) : Prop :=
  (l.length = n ∧ n ≤ 281474976710656) ∧ (0 < n → ∃ b off, A = some ⟨b, off, none⟩ ∧ b < B ∧ ∀ i x, l[i]? = some x → w.cell? ⟨b, off + i, none⟩ = some (.int .i64 x))

structure K where
  kind : Int
  n : Int
  name : ByteArray
  ar : Int
  deriving DecidableEq

@[reducible] def K.v (x : K) : Value := .agg #[.int .i64 x.kind, .int .i64 x.n, .string x.name, .int .i64 x.ar]

/-- whether two keys are equal, on their fields -/
def eqK (k n : Int) (s : ByteArray) (m : Int) (k' n' : Int) (s' : ByteArray) (m' : Int) : Bool := k == k' && n == n' && s.toList == s'.toList && m == m'
@[reducible] def K.eqv (a b : K) : Bool := eqK a.kind a.n a.name a.ar b.kind b.n b.name b.ar

theorem bytes_inj {s s' : ByteArray} (h : s.toList = s'.toList) : s = s' := by
  rw [ByteArray.toList_eq, ByteArray.toList_eq] at h
  obtain ⟨d⟩ := s
  obtain ⟨d'⟩ := s'
  simpa using Array.toList_inj.1 h

theorem K.eqv_iff (a b : K) : K.eqv a b = true ↔ a = b := by
  obtain ⟨k, n, s, m⟩ := a
  obtain ⟨k', n', s', m'⟩ := b
  unfold K.eqv eqK
  simp only [Bool.and_eq_true, beq_iff_eq, K.mk.injEq]
  constructor
  · rintro ⟨⟨⟨h1, h2⟩, h3⟩, h4⟩; exact ⟨h1, h2, bytes_inj h3, h4⟩
  · rintro ⟨rfl, rfl, rfl, rfl⟩; exact ⟨⟨⟨rfl, rfl⟩, rfl⟩, rfl⟩

/-- the four cells of a key -/
def KeyCells (w : World) (b o : Nat) (x : K) : Prop :=
  w.cell? ⟨b, o, none⟩ = some (.int .i64 x.kind) ∧ w.cell? ⟨b, o + 1, none⟩ = some (.int .i64 x.n) ∧ w.cell? ⟨b, o + 2, none⟩ = some (.string x.name) ∧ w.cell? ⟨b, o + 3, none⟩ = some (.int .i64 x.ar)

/-- a slice of n keys, as a list -/
def KeysAt (w : World) (B : Nat) (A : Option Addr) (n : Nat) (l : List K) : Prop :=
  (l.length = n ∧ n ≤ 281474976710656) ∧ (0 < n → ∃ b off, A = some ⟨b, off, none⟩ ∧ b < B ∧ ∀ i x, l[i]? = some x → KeyCells w b (off + i * 4) x)

section
variable {w w' : World} {B B' n : Nat} {A : Option Addr}
theorem IntsAt.at {l : List Int} (h : IntsAt w B A n l) {i : Nat} (hi : i < n) :
    ∃ b off x, A = some ⟨b, off, none⟩ ∧ b < B ∧ l[i]? = some x ∧ w.cell? ⟨b, off + i, none⟩ = some (.int .i64 x) := by
  obtain ⟨⟨hn, _⟩, h⟩ := h
  obtain ⟨b, off, e, hb, hc⟩ := h (by omega)
  have hx : l[i]? = some (l[i]'(by omega)) := List.getElem?_eq_getElem _
  exact ⟨b, off, _, e, hb, hx, hc i _ hx⟩
theorem IntsAt.below {l : List Int} (h : IntsAt w B A n l) (hb : Below B w w') : IntsAt w' B A n l := ⟨h.1, fun hn => by
  obtain ⟨b, off, e, hlt, hc⟩ := h.2 hn
  exact ⟨b, off, e, hlt, fun i x hx => (hb.cell (p := ⟨b, off + i, none⟩) hlt).trans (hc i x hx)⟩⟩
theorem IntsAt.more {l : List Int} (h : IntsAt w B A n l) (hB : B ≤ B') : IntsAt w B' A n l := ⟨h.1, fun hn => by
  obtain ⟨b, off, e, hlt, hc⟩ := h.2 hn
  exact ⟨b, off, e, by omega, hc⟩⟩
theorem IntsAt.drewN {l : List Int} (h : IntsAt w B A n l) (k : Nat) : IntsAt (w.drewN k) B A n l := h
theorem IntsAt.nil (w : World) (B : Nat) (A : Option Addr) : IntsAt w B A 0 [] := ⟨⟨rfl, by omega⟩, fun h => absurd h (by omega)⟩

theorem KeyCells.below {b o : Nat} {x : K} (h : KeyCells w b o x) (hB : b < B) (hb : Below B w w') : KeyCells w' b o x :=
  ⟨(hb.cell (p := ⟨b, _, none⟩) hB).trans h.1, (hb.cell (p := ⟨b, _, none⟩) hB).trans h.2.1, (hb.cell (p := ⟨b, _, none⟩) hB).trans h.2.2.1, (hb.cell (p := ⟨b, _, none⟩) hB).trans h.2.2.2⟩
theorem KeysAt.at {l : List K} (h : KeysAt w B A n l) {i : Nat} (hi : i < n) :
    ∃ b off x, A = some ⟨b, off, none⟩ ∧ b < B ∧ l[i]? = some x ∧ KeyCells w b (off + i * 4) x := by
  obtain ⟨⟨hn, _⟩, h⟩ := h
  obtain ⟨b, off, e, hb, hc⟩ := h (by omega)
  have hx : l[i]? = some (l[i]'(by omega)) := List.getElem?_eq_getElem _
  exact ⟨b, off, _, e, hb, hx, hc i _ hx⟩
theorem KeysAt.below {l : List K} (h : KeysAt w B A n l) (hb : Below B w w') : KeysAt w' B A n l := ⟨h.1, fun hn => by
  obtain ⟨b, off, e, hlt, hc⟩ := h.2 hn
  exact ⟨b, off, e, hlt, fun i x hx => (hc i x hx).below hlt hb⟩⟩
theorem KeysAt.more {l : List K} (h : KeysAt w B A n l) (hB : B ≤ B') : KeysAt w B' A n l := ⟨h.1, fun hn => by
  obtain ⟨b, off, e, hlt, hc⟩ := h.2 hn
  exact ⟨b, off, e, by omega, hc⟩⟩
theorem KeysAt.drewN {l : List K} (h : KeysAt w B A n l) (k : Nat) : KeysAt (w.drewN k) B A n l := h
end

theorem bNext {W w1 w2 : World} (h : Below W.heap.size W w1) (k : Below w1.heap.size w1 w2) : Below W.heap.size W w2 := h.trans (k.mono h.size)
theorem bStart {w : World} {o : Obj} {w1 : World} (h : Below (w.alloc o).heap.size (w.alloc o) w1) : Below w.heap.size w w1 := ((Below.refl _ _).alloc (Nat.le_refl _) _).trans (h.mono (by simp))
theorem bDrewN {B : Nat} {w w1 : World} (h : Below B w w1) (n : Nat) : Below B w (w1.drewN n) := ⟨h.os, h.tape, h.output, h.size, h.block⟩
theorem bcell {W w1 : World} (hb : Below W.heap.size W w1) : (∀ b o, b < W.heap.size → w1.cell? ⟨b, o, none⟩ = W.cell? ⟨b, o, none⟩) ∧ (∀ b o, b < W.heap.size → w1.frozen? ⟨b, o, none⟩ = W.frozen? ⟨b, o, none⟩) :=
  ⟨fun b o h => hb.cell (p := ⟨b, o, none⟩) h, fun b o h => hb.frozen (p := ⟨b, o, none⟩) h⟩

theorem KeyCells.four {w : World} {b o : Nat} {x : K} (h : KeyCells w b o x) :
    w.cell? ⟨b, o, none⟩ = some (.int .i64 x.kind) ∧ w.cell? ⟨b, o + 1, none⟩ = some (.int .i64 x.n) ∧ w.cell? ⟨b, o + 2, none⟩ = some (.string x.name) ∧ w.cell? ⟨b, o + 3, none⟩ = some (.int .i64 x.ar) := h
theorem bAlloc (w : World) (o : Obj) : Below w.heap.size w (w.alloc o) := (Below.refl _ _).alloc (Nat.le_refl _) _

theorem own_below {w w' : World} {base size n : Nat} {e : TypeId} {v : Value} {xs : List Value} (h : w.ownsRow base e size v n xs) (hb : Below w.heap.size w w') : w'.ownsRow base e size v n xs := by
  refine ⟨h.1, ?_⟩
  rcases h.2 with h2 | ⟨g, cap, cur, hv, hg, hh, r⟩
  · exact .inl h2
  · exact .inr ⟨g, cap, cur, hv, hg, (hb.block g (h.lt g (by rw [hv]; rfl)).2).trans hh, r⟩
theorem own_base {w : World} {base base' size n : Nat} {e : TypeId} {v : Value} {xs : List Value} (h : w.ownsRow base e size v n xs) (hb : base' ≤ base) : w.ownsRow base' e size v n xs := by
  refine ⟨h.1, ?_⟩
  rcases h.2 with h2 | ⟨g, cap, cur, hv, hg, hh, r⟩
  · exact .inl h2
  · exact .inr ⟨g, cap, cur, hv, Nat.le_trans hb hg, hh, r⟩
theorem ints_one (l : List Int) : ∀ u ∈ l.map (Value.int .i64), u.oneCell' = true := by simp [Value.oneCell']
/-- behind an append to a row of the call's own -/
theorem bGrown {B : Nat} {a w w' : World} {base size n : Nat} {e : TypeId} {v : Value} {xs : List Value} (h : Below B a w) (ho : w.ownsRow base e size v n xs) (hg : w.grownBy w' v.ownBlock) (hB : B ≤ w.heap.size) (hb : B ≤ base) : Below B a w' :=
  h.grown hg hB (fun k hk => Nat.le_trans hb (ho.lt k hk).1)

theorem own_ints {w : World} {base n : Nat} {e : TypeId} {v : Value} {l : List Int} (h : w.ownsRow base e 1 v n (l.map (Value.int .i64))) (hm : n ≤ 281474976710656) :
    ∃ A c, v = .slice A n c ∧ IntsAt w w.heap.size A n l := by
  have hn : l.length = n := by simpa using h.1
  rcases h.2 with ⟨rfl, rfl⟩ | ⟨g, cap, cur, rfl, hg, hh, h1, h2, h3, h4⟩
  · exact ⟨none, 0, rfl, ⟨hn, hm⟩, fun h => absurd h (by omega)⟩
  · refine ⟨_, _, rfl, ⟨hn, hm⟩, fun _ => ⟨g, 0, rfl, (h.lt g rfl).2, fun i x hx => ?_⟩⟩
    have hc := h.cells (g := g) rfl i (.int .i64 x) (by simp [hx])
    rw [← hc]
    unfold Addr.add
    by_cases hi : i = 0 <;> simp [hi]

/-- the cells of a row of an index: a key, and a slice of numbers -/
def RowCells (w : World) (B b o : Nat) (r : K × List Int) : Prop :=
  KeyCells w b o r.1 ∧ ∃ A c, w.cell? ⟨b, o + 4, none⟩ = some (.slice A r.2.length c) ∧ IntsAt w B A r.2.length r.2
/-- a slice of n rows -/
def RowsAt (w : World) (B : Nat) (A : Option Addr) (n : Nat) (l : List (K × List Int)) : Prop :=
  (l.length = n ∧ n ≤ 281474976710656) ∧ (0 < n → ∃ b off, A = some ⟨b, off, none⟩ ∧ b < B ∧ ∀ i x, l[i]? = some x → RowCells w B b (off + i * 5) x)
structure Ix where
  all : List Int
  rows : List (K × List Int)
  rest : List Int
  deriving DecidableEq
/-- an index by value -/
def IxAt (w : World) (B : Nat) (v : Value) (x : Ix) : Prop :=
  ∃ A0 c0 A1 c1 A2 c2, v = .agg #[.slice A0 x.all.length c0, .slice A1 x.rows.length c1, .slice A2 x.rest.length c2] ∧
    IntsAt w B A0 x.all.length x.all ∧ RowsAt w B A1 x.rows.length x.rows ∧ IntsAt w B A2 x.rest.length x.rest

section
variable {w w' : World} {B B' n : Nat} {A : Option Addr}
theorem RowCells.below {b o : Nat} {x : K × List Int} (h : RowCells w B b o x) (hB : b < B) (hb : Below B w w') : RowCells w' B b o x := by
  obtain ⟨h1, A, c, h2, h3⟩ := h
  exact ⟨h1.below hB hb, A, c, (hb.cell (p := ⟨b, _, none⟩) hB).trans h2, h3.below hb⟩
theorem RowCells.more {b o : Nat} {x : K × List Int} (h : RowCells w B b o x) (hB : B ≤ B') : RowCells w B' b o x := by
  obtain ⟨h1, A, c, h2, h3⟩ := h
  exact ⟨h1, A, c, h2, h3.more hB⟩
theorem RowsAt.below {l : List (K × List Int)} (h : RowsAt w B A n l) (hb : Below B w w') : RowsAt w' B A n l := ⟨h.1, fun hn => by
  obtain ⟨b, off, e, hlt, hc⟩ := h.2 hn
  exact ⟨b, off, e, hlt, fun i x hx => (hc i x hx).below hlt hb⟩⟩
theorem RowsAt.more {l : List (K × List Int)} (h : RowsAt w B A n l) (hB : B ≤ B') : RowsAt w B' A n l := ⟨h.1, fun hn => by
  obtain ⟨b, off, e, hlt, hc⟩ := h.2 hn
  exact ⟨b, off, e, by omega, fun i x hx => (hc i x hx).more hB⟩⟩
theorem RowsAt.at {l : List (K × List Int)} (h : RowsAt w B A n l) {i : Nat} (hi : i < n) :
    ∃ b off x, A = some ⟨b, off, none⟩ ∧ b < B ∧ l[i]? = some x ∧ RowCells w B b (off + i * 5) x := by
  obtain ⟨⟨hn, _⟩, h⟩ := h
  obtain ⟨b, off, e, hb, hc⟩ := h (by omega)
  have hx : l[i]? = some (l[i]'(by omega)) := List.getElem?_eq_getElem _
  exact ⟨b, off, _, e, hb, hx, hc i _ hx⟩
theorem IxAt.below {v : Value} {x : Ix} (h : IxAt w B v x) (hb : Below B w w') : IxAt w' B v x := by
  obtain ⟨A0, c0, A1, c1, A2, c2, e, h0, h1, h2⟩ := h
  exact ⟨A0, c0, A1, c1, A2, c2, e, h0.below hb, h1.below hb, h2.below hb⟩
theorem IxAt.more {v : Value} {x : Ix} (h : IxAt w B v x) (hB : B ≤ B') : IxAt w B' v x := by
  obtain ⟨A0, c0, A1, c1, A2, c2, e, h0, h1, h2⟩ := h
  exact ⟨A0, c0, A1, c1, A2, c2, e, h0.more hB, h1.more hB, h2.more hB⟩
theorem IxAt.empty (w : World) (B : Nat) : IxAt w B (.agg #[.slice none 0 0, .slice none 0 0, .slice none 0 0]) ⟨[], [], []⟩ :=
  ⟨none, 0, none, 0, none, 0, rfl, IntsAt.nil _ _ _, ⟨⟨rfl, by simp⟩, fun h => absurd h (by simp)⟩, IntsAt.nil _ _ _⟩
end

/-- a block without integers can be written: nothing that reads as an index lies in it -/
theorem IntsAt.apart {w w' : World} {g B n : Nat} {A : Option Addr} {l : List Int} (h : IntsAt w B A n l) (hg : ∀ o x, w.cell? ⟨g, o, none⟩ ≠ some (.int .i64 x)) (hk : ∀ b, b ≠ g → w'.heap[b]? = w.heap[b]?) : IntsAt w' B A n l := ⟨h.1, fun hn => by
  obtain ⟨b, off, e, hlt, hc⟩ := h.2 hn
  have hne : b ≠ g := by
    rintro rfl
    have h0 : l[0]? = some (l[0]'(by have := h.1.1; omega)) := List.getElem?_eq_getElem _
    exact hg _ _ (hc 0 _ h0)
  exact ⟨b, off, e, hlt, fun i x hx => (World.cell?_of_block (w := w) (w' := w') (a := ⟨b, off + i, none⟩) (hk b hne)).trans (hc i x hx)⟩⟩
theorem RowsAt.apart {w w' : World} {g B n : Nat} {A : Option Addr} {l : List (K × List Int)} (h : RowsAt w B A n l) (hg : ∀ o x, w.cell? ⟨g, o, none⟩ ≠ some (.int .i64 x)) (hk : ∀ b, b ≠ g → w'.heap[b]? = w.heap[b]?) : RowsAt w' B A n l := ⟨h.1, fun hn => by
  obtain ⟨b, off, e, hlt, hc⟩ := h.2 hn
  refine ⟨b, off, e, hlt, fun i x hx => ?_⟩
  obtain ⟨⟨k0, k1, k2, k3⟩, A', c', h4, hI⟩ := hc i x hx
  have hne : b ≠ g := by rintro rfl; exact hg _ _ k0
  have hcell : ∀ o, w'.cell? ⟨b, o, none⟩ = w.cell? ⟨b, o, none⟩ := fun o => World.cell?_of_block (w := w) (w' := w') (a := ⟨b, o, none⟩) (hk b hne)
  exact ⟨⟨(hcell _).trans k0, (hcell _).trans k1, (hcell _).trans k2, (hcell _).trans k3⟩, A', c', (hcell _).trans h4, hI.apart hg hk⟩⟩
theorem IxAt.apart {w w' : World} {g B : Nat} {v : Value} {x : Ix} (h : IxAt w B v x) (hg : ∀ o x, w.cell? ⟨g, o, none⟩ ≠ some (.int .i64 x)) (hk : ∀ b, b ≠ g → w'.heap[b]? = w.heap[b]?) : IxAt w' B v x := by
  obtain ⟨A0, c0, A1, c1, A2, c2, e, h0, h1, h2⟩ := h
  exact ⟨A0, c0, A1, c1, A2, c2, e, h0.apart hg hk, h1.apart hg hk, h2.apart hg hk⟩

theorem ret_bool {a b : Bool} (h : a = b) : Ending.returned (.bool a) = .returned (.bool b) := by rw [h]
theorem ret_int {k : IntKind} {a b : Int} (h : a = b) : Ending.returned (.int k a) = .returned (.int k b) := by rw [h]
end
section
open Go.RowKit

def upd {α : Type} (f : Nat → α) (i : Nat) (x : α) : Nat → α := fun j => if j = i then x else f j
theorem upd_same {α : Type} (f : Nat → α) (i : Nat) (x : α) : upd f i x i = x := by simp [upd]
theorem upd_other {α : Type} (f : Nat → α) {i j : Nat} (x : α) (h : j ≠ i) : upd f i x j = f j := by simp [upd, h]

section
variable {w w' : World} {base base' e size n : Nat} {v : Value} {xs : List Value}
theorem own_form (h : w.ownsRow base e size v n xs) : ∃ A c, v = .slice A n c := by
  rcases h.2 with ⟨rfl, rfl⟩ | ⟨g, cap, cur, rfl, _⟩
  · exact ⟨_, _, rfl⟩
  · exact ⟨_, _, rfl⟩
theorem own_some (h : w.ownsRow base e size v n xs) (hn : 0 < n) : ∃ g cap, v = .slice (some ⟨g, 0, none⟩) n cap := by
  rcases h.2 with ⟨rfl, h0⟩ | ⟨g, cap, cur, rfl, _⟩
  · omega
  · exact ⟨_, _, rfl⟩
theorem own_type (h : w.ownsRow base e size v n xs) {g : Nat} (hg : v.ownBlock = some g) : ∃ cs, w.heap[g]? = some (.cells cs e (0, 0)) := by
  rcases h.2 with ⟨rfl, rfl⟩ | ⟨g', cap, cur, rfl, _, hh, _⟩
  · simp [Value.ownBlock] at hg
  · simp [Value.ownBlock] at hg; subst hg; exact ⟨_, hh⟩
theorem own_stay (h : w.ownsRow base e size v n xs) (hk : ∀ g, v.ownBlock = some g → w'.heap[g]? = w.heap[g]?) : w'.ownsRow base e size v n xs := by
  refine ⟨h.1, ?_⟩
  rcases h.2 with h2 | ⟨g, cap, cur, hv, hg, hh, r⟩
  · exact .inl h2
  · exact .inr ⟨g, cap, cur, hv, hg, (hk g (by rw [hv]; rfl)).trans hh, r⟩
theorem own_ne (h : w.ownsRow base e size v n xs) {g t : Nat} {cs : Array Value} {fr : Nat × Nat} (hg : w.heap[g]? = some (.cells cs t fr)) (hne : t ≠ e) : v.ownBlock ≠ some g := by
  intro hv
  obtain ⟨cs', h'⟩ := own_type h hv
  rw [h'] at hg
  injection hg with hg
  injection hg with _ ht _
  exact hne ht.symm
theorem own_ne_map (h : w.ownsRow base e size v n xs) {g c : Nat} {es : Array MapEntry} (hg : w.heap[g]? = some (.map es c)) : v.ownBlock ≠ some g := by
  intro hv
  obtain ⟨cs', h'⟩ := own_type h hv
  rw [h'] at hg
  injection hg with hg
  cases hg
theorem cells_new (w : World) (cs : List Value) (t : TypeId) : ∀ j u, cs[j]? = some u → (w.alloc (.cells cs.toArray t)).cell? ((⟨w.heap.size, 0, none⟩ : Addr).add j) = some u := by
  intro j u hj
  have h := cell_of_row (w.alloc (.cells cs.toArray t)) w.heap.size j cs.toArray t (0, 0) (heap_alloc_new w _)
  have e : (⟨w.heap.size, 0, none⟩ : Addr).add j = ⟨w.heap.size, j, none⟩ := by
    unfold Addr.add
    by_cases hi : j = 0 <;> simp [hi]
  rw [e, h]
  simpa using hj
end

structure Fam (w : World) (e base N : Nat) (vs : Nat → Value) (ls : Nat → List Int) : Prop where
  own : ∀ i, i < N → w.ownsRow base e 1 (vs i) (ls i).length ((ls i).map (.int .i64))
  apart : ∀ i j b, i < N → j < N → i ≠ j → (vs i).ownBlock = some b → (vs j).ownBlock ≠ some b

section
variable {w w' : World} {e base N : Nat} {vs : Nat → Value} {ls : Nat → List Int}
theorem Fam.stay (h : Fam w e base N vs ls) (hk : ∀ (g : Nat) (cs : Array Value), w.heap[g]? = some (Obj.cells cs e (0, 0)) → w'.heap[g]? = w.heap[g]?) : Fam w' e base N vs ls :=
  ⟨fun i hi => own_stay (h.own i hi) fun g hg => by obtain ⟨cs, hc⟩ := own_type (h.own i hi) hg; exact hk g cs hc, h.apart⟩
theorem Fam.app (h : Fam w e base N vs ls) {i : Nat} (hi : i < N) {v' : Value} {l' : List Int} (ho : w'.ownsRow base e 1 v' l'.length (l'.map (.int .i64))) (hg : w.grownBy w' (vs i).ownBlock)
    (hat : v'.ownBlock = (vs i).ownBlock ∨ v'.ownBlock = some w.heap.size) : Fam w' e base N (upd vs i v') (upd ls i l') := by
  have hlt : ∀ j b, j < N → (vs j).ownBlock = some b → b < w.heap.size := fun j b hj hb => ((h.own j hj).lt b hb).2
  refine ⟨fun j hj => ?_, fun j k b hj hk hne => ?_⟩
  · by_cases hji : j = i
    · subst hji; rw [upd_same, upd_same]; exact ho
    · rw [upd_other _ _ hji, upd_other _ _ hji]
      exact own_stay (h.own j hj) fun g hgj => hg.block g (hlt j g hj hgj) (fun e' => h.apart j i g hj hi hji hgj e'.symm)
  · by_cases hji : j = i
    · subst hji
      rw [upd_same, upd_other _ _ (fun e' => hne e'.symm)]
      intro hb hb'
      rcases hat with h1 | h1
      · rw [h1] at hb; exact h.apart j k b hj hk hne hb hb'
      · rw [h1] at hb; have := hlt k b hk hb'; injection hb with hb; omega
    · by_cases hki : k = i
      · subst hki
        rw [upd_same, upd_other _ _ hji]
        intro hb hb'
        rcases hat with h1 | h1
        · rw [h1] at hb'; exact h.apart j k b hj hk hne hb hb'
        · rw [h1] at hb'; have := hlt j b hj hb; injection hb' with hb'; omega
      · rw [upd_other _ _ hji, upd_other _ _ hki]
        exact h.apart j k b hj hk hne
theorem Fam.add (h : Fam w e base N vs ls) {v : Value} {l : List Int} (hb : Below w.heap.size w w') (ho : w'.ownsRow w.heap.size e 1 v l.length (l.map (.int .i64))) (hbase : base ≤ w.heap.size) : Fam w' e base (N + 1) (upd vs N v) (upd ls N l) := by
  have hlt : ∀ j b, j < N → (vs j).ownBlock = some b → b < w.heap.size := fun j b hj hb => ((h.own j hj).lt b hb).2
  refine ⟨fun j hj => ?_, fun j k b hj hk hne => ?_⟩
  · by_cases hji : j = N
    · subst hji; rw [upd_same, upd_same]; exact own_base ho hbase
    · rw [upd_other _ _ hji, upd_other _ _ hji]
      exact own_below (h.own j (by omega)) hb
  · by_cases hji : j = N
    · subst hji
      rw [upd_same, upd_other _ _ (fun e' => hne e'.symm)]
      intro hb hb'
      have := hlt k b (by omega) hb'
      have := (ho.lt b hb).1
      omega
    · by_cases hki : k = N
      · subst hki
        rw [upd_same, upd_other _ _ hji]
        intro hb hb'
        have := hlt j b (by omega) hb
        have := (ho.lt b hb').1
        omega
      · rw [upd_other _ _ hji, upd_other _ _ hki]
        exact h.apart j k b (by omega) (by omega) hne
theorem Fam.read (h : Fam w e base N vs ls) {i : Nat} (hi : i < N) (hm : (ls i).length ≤ 281474976710656) : ∃ A c, vs i = .slice A (ls i).length c ∧ IntsAt w w.heap.size A (ls i).length (ls i) :=
  own_ints (h.own i hi) hm
theorem Fam.zero (w : World) (e base N : Nat) : Fam w e base N (fun _ => .slice none 0 0) (fun _ => []) :=
  ⟨fun _ _ => World.ownsRow_nil _ _ _ _, fun _ _ _ _ _ _ h => by simp [Value.ownBlock] at h⟩
end

/-- a block that is known whole -/
def Blk (w : World) (g : Nat) (t : TypeId) (cs : Array Value) : Prop := w.heap[g]? = some (.cells cs t (0, 0))
section
variable {w w' : World} {g : Nat} {t : TypeId} {cs : Array Value}
theorem Blk.lt (h : Blk w g t cs) : g < w.heap.size := by
  rcases Nat.lt_or_ge g w.heap.size with hlt | hge
  · exact hlt
  · unfold Blk at h; rw [Array.getElem?_eq_none hge] at h; cases h
theorem Blk.cell (h : Blk w g t cs) (i : Nat) : w.cell? ⟨g, i, none⟩ = cs[i]? := cell_of_row w g i cs t (0, 0) h
theorem Blk.frozen (h : Blk w g t cs) (i : Nat) : w.frozen? ⟨g, i, none⟩ = false := frozen_of_row w g i cs t h
theorem Blk.new (w : World) (t : TypeId) (cs : Array Value) : Blk (w.alloc (.cells cs t)) w.heap.size t cs := heap_alloc_new w _
theorem Blk.alloc (h : Blk w g t cs) (o : Obj) : Blk (w.alloc o) g t cs := (Below.heap_alloc w o g h.lt).trans h
theorem Blk.below {B : Nat} (h : Blk w g t cs) (hb : Below B w w') (hg : g < B) : Blk w' g t cs := (hb.block g hg).trans h
theorem Blk.grown {row : Option Nat} (h : Blk w g t cs) (hb : w.grownBy w' row) (hg : row ≠ some g) : Blk w' g t cs := (hb.block g h.lt (fun e => hg e.symm)).trans h
theorem Blk.set_ (h : Blk w g t cs) (i : Nat) (u : Value) : Blk (w.setCell ⟨g, i, none⟩ u) g t (cs.setIfInBounds i u) := by
  unfold Blk at h ⊢
  simp [World.setCell, Array.getElem?_modify, h]
theorem Blk.far (h : Blk w g t cs) {p : Addr} (hp : g ≠ p.block) (u : Value) : Blk (w.setCell p u) g t cs := (heap_setCell_other w p g u hp).trans h
end
end
end Go.Proofs.YtcagaaacfcpoeaaGreat
