/-
  A copy of a state in a variable of the reference's: how it is changed.
-/
import Derived.Test.YtklpghpfdeojeaaVa
import Derived.Test.YtklpghpfdeojeaaUf
namespace Go.Proofs.Ytklpghpfdeojeaa
open Go.RowKit

theorem Blk.drew1 {w : World} {g : Nat} {t : TypeId} {cs : Array Value} (h : Blk w g t cs) : Blk w.drew g t cs := h
theorem bDrew1 {B : Nat} {w w1 : World} (h : Below B w w1) : Below B w w1.drew := bDrewN h 1
theorem heap_drew (w : World) (b : Nat) : w.drew.heap[b]? = w.heap[b]? := rfl
structure Nr (w : World) (B nb : Nat) (v0 v1 : Value) (s : Sm) : Prop where
  box : Blk w nb 25 #[v0, v1, .int .i64 s.inp, .int .i64 s.out, .int .i64 s.nxt]
  r0 : w.ownsRow B 35 2 v0 s.files.length (fCs s.files)
  r1 : w.ownsRow B 52 7 v1 s.opn.length (gCs s.opn)
  n0 : v0.ownBlock ≠ some nb
  n1 : v1.ownBlock ≠ some nb
theorem Nr.made {w : World} {B : Nat} {v0 v1 : Value} {s : Sm} (h0 : w.ownsRow B 35 2 v0 s.files.length (fCs s.files)) (h1 : w.ownsRow B 52 7 v1 s.opn.length (gCs s.opn)) :
    Nr (w.alloc (.cells #[v0, v1, .int .i64 s.inp, .int .i64 s.out, .int .i64 s.nxt] 25)) B w.heap.size v0 v1 s :=
  ⟨Blk.new _ _ _, h0.alloc _, h1.alloc _, fun e => by have := (h0.lt _ e).2; omega, fun e => by have := (h1.lt _ e).2; omega⟩
section
variable {w w' : World} {B nb : Nat} {v0 v1 : Value} {s : Sm}
theorem Nr.next (h : Nr w B nb v0 v1 s) (hb : Below w.heap.size w w') : Nr w' B nb v0 v1 s := ⟨h.box.next hb, own_below h.r0 hb, own_below h.r1 hb, h.n0, h.n1⟩
theorem Nr.out (h : Nr w B nb v0 v1 s) : OwnS w B (.agg #[v0, v1, .int .i64 s.inp, .int .i64 s.out, .int .i64 s.nxt]) s := ⟨v0, v1, rfl, h.r0, h.r1⟩
theorem Nr.forms (h : Nr w B nb v0 v1 s) : (∃ D e, v0 = .slice D s.files.length e ∧ CapOk D s.files.length e) ∧ ∃ D e, v1 = .slice D s.opn.length e ∧ CapOk D s.opn.length e := ⟨own_form h.r0, own_form h.r1⟩
theorem Nr.opens (h : Nr w B nb v0 v1 s) (hn : 0 < s.opn.length) : ∃ g cap, v1 = .slice (some ⟨g, 0, none⟩) s.opn.length cap ∧ s.opn.length ≤ cap ∧ B ≤ g ∧ g < w.heap.size ∧ g ≠ nb ∧ v0.ownBlock ≠ some g ∧ (∀ o, w.frozen? ⟨g, o, none⟩ = false) ∧ ∀ i x, s.opn[i]? = some x → GCells w g (i * 7) x := by
  have h1 := h.r1
  obtain ⟨g, cap, rfl⟩ := own_head h1 hn
  obtain ⟨hl1, hl2⟩ := h1.lt g rfl
  obtain ⟨cs, hcs⟩ := own_ty h1 (g := g) rfl
  have hcap : s.opn.length ≤ cap := by obtain ⟨A, c, e, hc⟩ := own_form h1; injection e with _ _ e; subst e; exact hc.1
  refine ⟨g, cap, rfl, hcap, hl1, hl2, fun e => h.n1 (by rw [e]; rfl), fun e => ?_, fun o => frozen_of_row w g o cs 52 hcs, fun i x hx => ?_⟩
  · obtain ⟨cs', hcs'⟩ := own_ty h.r0 e
    rw [hcs] at hcs'
    injection hcs' with hcs'
    injection hcs' with _ ht _
    exact absurd ht (by decide)
  · obtain ⟨r0, r1, r2, r3, r4, r5, r6⟩ := gCs_at hx
    have hc : ∀ j u, (gCs s.opn)[j]? = some u → w.cell? ⟨g, j, none⟩ = some u := fun j u hj => by
      have := h1.cells (g := g) rfl j u hj
      rw [add_plain] at this
      simpa using this
    exact ⟨hc _ _ r0, hc _ _ r1, hc _ _ r2, hc _ _ r3, hc _ _ r4, hc _ _ r5, hc _ _ r6⟩
theorem Nr.filesG (h : Nr w B nb v0 v1 s) (hn : 0 < s.files.length) : ∃ g cap, v0 = .slice (some ⟨g, 0, none⟩) s.files.length cap ∧ B ≤ g ∧ g < w.heap.size ∧ g ≠ nb ∧ v1.ownBlock ≠ some g ∧ (∀ o, w.frozen? ⟨g, o, none⟩ = false) ∧ ∀ i x, s.files[i]? = some x → FCells w g (i * 2) x := by
  have h1 := h.r0
  obtain ⟨g, cap, rfl⟩ := own_head h1 hn
  obtain ⟨hl1, hl2⟩ := h1.lt g rfl
  obtain ⟨cs, hcs⟩ := own_ty h1 (g := g) rfl
  refine ⟨g, cap, rfl, hl1, hl2, fun e => h.n0 (by rw [e]; rfl), fun e => ?_, fun o => frozen_of_row w g o cs 35 hcs, fun i x hx => ?_⟩
  · obtain ⟨cs', hcs'⟩ := own_ty h.r1 e
    rw [hcs] at hcs'
    injection hcs' with hcs'
    injection hcs' with _ ht _
    exact absurd ht (by decide)
  · obtain ⟨r0, r1⟩ := fCs_at hx
    have hc : ∀ j u, (fCs s.files)[j]? = some u → w.cell? ⟨g, j, none⟩ = some u := fun j u hj => by
      have := h1.cells (g := g) rfl j u hj
      rw [add_plain] at this
      simpa using this
    exact ⟨hc _ _ r0, hc _ _ r1⟩
theorem Nr.setG {g cap : Nat} (h : Nr w B nb v0 (.slice (some ⟨g, 0, none⟩) s.opn.length cap) s) (hne : v0.ownBlock ≠ some g) (j : Nat) (u : Value) (l : List G) (hl : gCs l = (gCs s.opn).set j u) (hll : l.length = s.opn.length) :
    Nr (w.setCell ⟨g, j, none⟩ u) B nb v0 (.slice (some ⟨g, 0, none⟩) s.opn.length cap) { s with opn := l } := by
  have hg : g ≠ nb := fun e => h.n1 (by rw [e]; rfl)
  refine ⟨h.box.far (by simp; exact fun e => hg e.symm) _, own_stay h.r0 fun g' hg' => heap_setCell_other _ _ _ _ (by simp; rintro rfl; exact hne hg'), ?_, h.n0, h.n1⟩
  have := (h.r1.stored j u).1
  rw [← hl] at this
  simpa [hll] using this
theorem Nr.setF {g cap : Nat} (h : Nr w B nb (.slice (some ⟨g, 0, none⟩) s.files.length cap) v1 s) (hne : v1.ownBlock ≠ some g) (j : Nat) (u : Value) (l : List F) (hl : fCs l = (fCs s.files).set j u) (hll : l.length = s.files.length) :
    Nr (w.setCell ⟨g, j, none⟩ u) B nb (.slice (some ⟨g, 0, none⟩) s.files.length cap) v1 { s with files := l } := by
  have hg : g ≠ nb := fun e => h.n0 (by rw [e]; rfl)
  refine ⟨h.box.far (by simp; exact fun e => hg e.symm) _, ?_, own_stay h.r1 fun g' hg' => heap_setCell_other _ _ _ _ (by simp; rintro rfl; exact hne hg'), h.n0, h.n1⟩
  have := (h.r0.stored j u).1
  rw [← hl] at this
  simpa [hll] using this
theorem Nr.rows (h : Nr w B nb v0 v1 s) (j : Nat) (u : Value) : (w.setCell ⟨nb, j, none⟩ u).ownsRow B 35 2 v0 s.files.length (fCs s.files) ∧ (w.setCell ⟨nb, j, none⟩ u).ownsRow B 52 7 v1 s.opn.length (gCs s.opn) :=
  ⟨own_stay h.r0 fun g hg => heap_setCell_other _ _ _ _ (by simp; rintro rfl; exact h.n0 hg), own_stay h.r1 fun g hg => heap_setCell_other _ _ _ _ (by simp; rintro rfl; exact h.n1 hg)⟩
theorem Nr.setIn (h : Nr w B nb v0 v1 s) (x : Int) : Nr (w.setCell ⟨nb, 2, none⟩ (.int .i64 x)) B nb v0 v1 { s with inp := x } :=
  ⟨by have := h.box.set_ 2 (.int .i64 x); simpa using this, (h.rows _ _).1, (h.rows _ _).2, h.n0, h.n1⟩
theorem Nr.setOut (h : Nr w B nb v0 v1 s) (x : Int) : Nr (w.setCell ⟨nb, 3, none⟩ (.int .i64 x)) B nb v0 v1 { s with out := x } :=
  ⟨by have := h.box.set_ 3 (.int .i64 x); simpa using this, (h.rows _ _).1, (h.rows _ _).2, h.n0, h.n1⟩
theorem Nr.setNxt (h : Nr w B nb v0 v1 s) (x : Int) : Nr (w.setCell ⟨nb, 4, none⟩ (.int .i64 x)) B nb v0 v1 { s with nxt := x } :=
  ⟨by have := h.box.set_ 4 (.int .i64 x); simpa using this, (h.rows _ _).1, (h.rows _ _).2, h.n0, h.n1⟩
theorem Nr.cells (h : Nr w B nb v0 v1 s) : (w.cell? ⟨nb, 0, none⟩ = some v0 ∧ w.cell? ⟨nb, 1, none⟩ = some v1 ∧ w.cell? ⟨nb, 2, none⟩ = some (.int .i64 s.inp) ∧ w.cell? ⟨nb, 3, none⟩ = some (.int .i64 s.out) ∧ w.cell? ⟨nb, 4, none⟩ = some (.int .i64 s.nxt)) ∧ (∀ o, w.frozen? ⟨nb, o, none⟩ = false) ∧ nb < w.heap.size := by
  have h0 := h.box.cell 0
  have h1 := h.box.cell 1
  have h2 := h.box.cell 2
  have h3 := h.box.cell 3
  have h4 := h.box.cell 4
  simp at h0 h1 h2 h3 h4
  exact ⟨⟨h0, h1, h2, h3, h4⟩, fun o => h.box.frozen o, h.box.lt⟩
theorem Nr.drew1 (h : Nr w B nb v0 v1 s) : Nr w.drew B nb v0 v1 s := ⟨h.box, h.r0, h.r1, h.n0, h.n1⟩
/-- another row of files -/
theorem Nr.setV0 {base m : Nat} {v : Value} {l : List F} (h : Nr w B nb v0 v1 s) (ho : w.ownsRow base 35 2 v m (fCs l)) (hm : l.length = m) (hB : B ≤ base) (hn : v.ownBlock ≠ some nb) : Nr (w.setCell ⟨nb, 0, none⟩ v) B nb v v1 { s with files := l } := by
  subst hm
  refine ⟨by have := h.box.set_ 0 v; simpa using this, ?_, (h.rows _ _).2, hn, h.n1⟩
  exact own_stay (own_base ho hB) fun g hg => heap_setCell_other _ _ _ _ (by simp; rintro rfl; exact hn hg)
/-- another row of streams -/
theorem Nr.setV1 {base m : Nat} {v : Value} {l : List G} (hbox : Blk w nb 25 #[v0, v1, .int .i64 s.inp, .int .i64 s.out, .int .i64 s.nxt]) (h0 : w.ownsRow B 35 2 v0 s.files.length (fCs s.files)) (hn0 : v0.ownBlock ≠ some nb) (ho : w.ownsRow base 52 7 v m (gCs l)) (hm : l.length = m) (hB : B ≤ base) (hn : v.ownBlock ≠ some nb) : Nr (w.setCell ⟨nb, 1, none⟩ v) B nb v0 v { s with opn := l } := by
  subst hm
  refine ⟨by have := hbox.set_ 1 v; simpa using this, own_stay h0 fun g hg => heap_setCell_other _ _ _ _ (by simp; rintro rfl; exact hn0 hg), ?_, hn0, hn⟩
  exact own_stay (own_base ho hB) fun g hg => heap_setCell_other _ _ _ _ (by simp; rintro rfl; exact hn hg)
end
end Go.Proofs.Ytklpghpfdeojeaa
