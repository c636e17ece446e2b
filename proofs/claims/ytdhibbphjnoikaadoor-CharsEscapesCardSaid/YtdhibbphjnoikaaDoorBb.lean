/-
  Small laws on memory: slices of pairs that read as lists.
-/
import Derived.Test.YtdhibbphjnoikaaDoorBa
import Derived.WalkSpells
import Derived.Deep.Draws
import Derived.Lib.Hide
namespace Go.Proofs.YtdhibbphjnoikaaDoor
open Go.RowKit
/-- the two cells of a pair -/
def PairCells (w : World) (b o : Nat) (x : Int × Int) : Prop := w.cell? ⟨b, o, none⟩ = some (.int .i64 x.1) ∧ w.cell? ⟨b, o + 1, none⟩ = some (.int .i64 x.2)
/-- a slice of n pairs, as a list -/
def PairsAt (w : World) (B : Nat) (A : Option Addr) (n : Nat) (l : Tab) : Prop :=
  (l.length = n ∧ n ≤ 281474976710656) ∧ (0 < n → ∃ b off, A = some ⟨b, off, none⟩ ∧ b < B ∧ ∀ i x, l[i]? = some x → PairCells w b (off + i * 2) x)
section
variable {w w' : World} {B B' n : Nat} {A : Option Addr} {l : Tab}
theorem PairCells.below {b o : Nat} {x : Int × Int} (h : PairCells w b o x) (hB : b < B) (hb : Below B w w') : PairCells w' b o x :=
  ⟨(hb.cell (p := ⟨b, _, none⟩) hB).trans h.1, (hb.cell (p := ⟨b, _, none⟩) hB).trans h.2⟩
theorem PairsAt.at (h : PairsAt w B A n l) {i : Nat} (hi : i < n) :
    ∃ b off, A = some ⟨b, off, none⟩ ∧ b < B ∧ PairCells w b (off + i * 2) (l.getD i (0, 0)) := by
  obtain ⟨⟨hn, _⟩, h⟩ := h
  obtain ⟨b, off, e, hb, hc⟩ := h (by omega)
  have hx : l[i]? = some (l[i]'(by omega)) := List.getElem?_eq_getElem _
  refine ⟨b, off, e, hb, ?_⟩
  rw [List.getD_eq_getElem?_getD, hx]
  exact hc i _ hx
theorem PairsAt.below (h : PairsAt w B A n l) (hb : Below B w w') : PairsAt w' B A n l := ⟨h.1, fun hn => by
  obtain ⟨b, off, e, hlt, hc⟩ := h.2 hn
  exact ⟨b, off, e, hlt, fun i x hx => (hc i x hx).below hlt hb⟩⟩
theorem PairsAt.more (h : PairsAt w B A n l) (hB : B ≤ B') : PairsAt w B' A n l := ⟨h.1, fun hn => by
  obtain ⟨b, off, e, hlt, hc⟩ := h.2 hn
  exact ⟨b, off, e, by omega, hc⟩⟩
theorem PairsAt.nil (w : World) (B : Nat) (A : Option Addr) : PairsAt w B A 0 [] := ⟨⟨rfl, by omega⟩, fun h => absurd h (by omega)⟩
theorem PairsAt.len (h : PairsAt w B A n l) : l.length = n := h.1.1
end
theorem bNext {W w1 w2 : World} (h : Below W.heap.size W w1) (k : Below w1.heap.size w1 w2) : Below W.heap.size W w2 := h.trans (k.mono h.size)
theorem bAlloc (w : World) (o : Obj) : Below w.heap.size w (w.alloc o) := (Below.refl _ _).alloc (Nat.le_refl _) _
theorem bDrewN {B : Nat} {w w1 : World} (h : Below B w w1) (n : Nat) : Below B w (w1.drewN n) := ⟨h.os, h.tape, h.output, h.size, h.block⟩
theorem bStart {w : World} {o : Obj} {w1 : World} (h : Below (w.alloc o).heap.size (w.alloc o) w1) : Below w.heap.size w w1 := ((Below.refl _ _).alloc (Nat.le_refl _) _).trans (h.mono (by simp))
theorem bcell {W w1 : World} (hb : Below W.heap.size W w1) : (∀ b o, b < W.heap.size → w1.cell? ⟨b, o, none⟩ = W.cell? ⟨b, o, none⟩) ∧ (∀ b o, b < W.heap.size → w1.frozen? ⟨b, o, none⟩ = W.frozen? ⟨b, o, none⟩) :=
  ⟨fun b o h => hb.cell (p := ⟨b, o, none⟩) h, fun b o h => hb.frozen (p := ⟨b, o, none⟩) h⟩
/-- the cells of a list of pairs -/
def pairCs : Tab → List Value
  | [] => []
  | x :: t => .int .i64 x.1 :: .int .i64 x.2 :: pairCs t
theorem pairCs_len : ∀ l : Tab, (pairCs l).length = l.length * 2
  | [] => rfl
  | x :: t => by simp [pairCs, pairCs_len t]; omega
theorem pairCs_at : ∀ {l : Tab} {i : Nat} {x : Int × Int}, l[i]? = some x → (pairCs l)[i * 2]? = some (.int .i64 x.1) ∧ (pairCs l)[i * 2 + 1]? = some (.int .i64 x.2)
  | [], i, x, h => by simp at h
  | y :: t, 0, x, h => by
    simp at h; subst h; exact ⟨rfl, rfl⟩
  | y :: t, i + 1, x, h => by
    have h2 := pairCs_at (l := t) (i := i) (x := x) (by simpa using h)
    rw [show (i + 1) * 2 = i * 2 + 1 + 1 by omega]
    exact h2
theorem pairCs_app : ∀ (l l' : Tab), pairCs (l ++ l') = pairCs l ++ pairCs l'
  | [], _ => rfl
  | x :: t, l' => by simp [pairCs, pairCs_app t l']
theorem pairCs_div {l : Tab} {j : Nat} {u : Value} (h : (pairCs l)[j]? = some u) : ∃ x, l[j / 2]? = some x := by
  have hj := (List.getElem?_eq_some_iff.1 h).1
  rw [pairCs_len] at hj
  exact ⟨_, List.getElem?_eq_getElem (by omega)⟩
theorem add_plain (b off i : Nat) : (Addr.mk b off none).add i = ⟨b, off + i, none⟩ := by
  unfold Addr.add
  by_cases hi : i = 0 <;> simp [hi]
theorem pairs_cells {w : World} {B m : Nat} {ad : Addr} {L : Tab} (h : PairsAt w B (some ad) m L) : ∀ j u, (pairCs L)[j]? = some u → w.cell? (ad.add j) = some u := by
  intro j u hu
  obtain ⟨x, hx⟩ := pairCs_div hu
  have hm : 0 < m := by have := (List.getElem?_eq_some_iff.1 hx).1; have := h.1.1; omega
  obtain ⟨b, off, e, -, hc⟩ := h.2 hm
  injection e with e
  subst e
  obtain ⟨r0, r1⟩ := pairCs_at hx
  obtain ⟨c0, c1⟩ := hc _ x hx
  rw [add_plain]
  have hmod : j % 2 = 0 ∨ j % 2 = 1 := by omega
  rcases hmod with hm | hm
  · rw [show j / 2 * 2 = j from by omega] at r0 c0; rw [c0, ← r0, hu]
  · rw [show j / 2 * 2 + 1 = j from by omega] at r1; rw [show off + j / 2 * 2 + 1 = off + j from by omega] at c1; rw [c1, ← r1, hu]
theorem pairs_one (L : Tab) : ∀ u ∈ pairCs L, u.oneCell' = true := by
  induction L with
  | nil => intro u hu; simp [pairCs] at hu
  | cons x t ih =>
    intro u hu
    simp only [pairCs, List.mem_cons] at hu
    rcases hu with rfl | rfl | hu
    · rfl
    · rfl
    · exact ih u hu
end Go.Proofs.YtdhibbphjnoikaaDoor
