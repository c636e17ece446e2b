/-
  A state by value in memory that nobody else writes; the reference's Close leaves a slice of a smaller capacity.
-/
import Derived.Test.YtklpghpfdeojeaaVb
namespace Go.Proofs.Ytklpghpfdeojeaa
open Go.RowKit

/-- a state by value that is read from blocks from b on -/
def FreshS (w : World) (b : Nat) (v : Value) (s : Sm) : Prop :=
  ∃ A0 c0 A1 c1, v = smV A0 A1 c0 c1 s ∧ ∀ W' : World, (∀ g, b ≤ g → g < w.heap.size → W'.heap[g]? = w.heap[g]?) → w.heap.size ≤ W'.heap.size → SmAt W' W'.heap.size v s
theorem OwnS.fresh {w : World} {b : Nat} {v : Value} {s : Sm} (h : OwnS w b v s) (hf : s.files.length ≤ 4398046511104) (ho : s.opn.length ≤ 1954687338268) : FreshS w b v s := by
  obtain ⟨A0, c0, A1, c1, e, -⟩ := h.read hf ho
  exact ⟨A0, c0, A1, c1, e, fun W' hk _ => (h.stay fun g h1 h2 => hk g h1 h2).read hf ho⟩
theorem FreshS.at {w : World} {b : Nat} {v : Value} {s : Sm} (h : FreshS w b v s) : SmAt w w.heap.size v s := by
  obtain ⟨A0, c0, A1, c1, e, hk⟩ := h
  exact hk w (fun _ _ _ => rfl) (Nat.le_refl _)
theorem FreshS.stay {w w' : World} {b : Nat} {v : Value} {s : Sm} (h : FreshS w b v s) (hk : ∀ g, b ≤ g → g < w.heap.size → w'.heap[g]? = w.heap[g]?) (hz : w.heap.size ≤ w'.heap.size) : FreshS w' b v s := by
  obtain ⟨A0, c0, A1, c1, e, h2⟩ := h
  exact ⟨A0, c0, A1, c1, e, fun W' hk' hz' => h2 W' (fun g h1 h3 => (hk' g h1 (by omega)).trans (hk g h1 h3)) (by omega)⟩
theorem FreshS.base {w : World} {b b' : Nat} {v : Value} {s : Sm} (h : FreshS w b v s) (hb : b' ≤ b) : FreshS w b' v s := by
  obtain ⟨A0, c0, A1, c1, e, h2⟩ := h
  exact ⟨A0, c0, A1, c1, e, fun W' hk' hz' => h2 W' (fun g h1 h3 => hk' g (by omega) h3) hz'⟩
theorem FreshS.next {w w' : World} {b : Nat} {v : Value} {s : Sm} (h : FreshS w b v s) (hb : Below w.heap.size w w') : FreshS w' b v s := h.stay (fun g _ hg => hb.block g hg) hb.size
/-- the results of a call, whoever made it -/
def RetF (r : Except Int Sm) (w : World) (e : Ending) (w' : World) : Prop := (∃ v', e = .returned (.tuple #[v', .int .i64 (errOf r)]) ∧ FreshS w' w.heap.size v' (smOf r)) ∧ Below w.heap.size w w'
def RetH (r : Except Int (Sm × Int)) (w : World) (e : Ending) (w' : World) : Prop := (∃ v', e = .returned (.tuple #[v', .int .i64 (in2 r), .int .i64 (errOf r)]) ∧ FreshS w' w.heap.size v' (sm2 r)) ∧ Below w.heap.size w w'
theorem RetS.fresh {r : Except Int Sm} {w w' : World} {e : Ending} (h : RetS r w e w') (hf : (smOf r).files.length ≤ 4398046511104) (ho : (smOf r).opn.length ≤ 1954687338268) : RetF r w e w' := by
  obtain ⟨⟨v', e1, h1⟩, h2⟩ := h
  exact ⟨⟨v', e1, h1.fresh hf ho⟩, h2⟩
theorem RetG.fresh {r : Except Int (Sm × Int)} {w w' : World} {e : Ending} (h : RetG r w e w') (hf : (sm2 r).files.length ≤ 4398046511104) (ho : (sm2 r).opn.length ≤ 1954687338268) : RetH r w e w' := by
  obtain ⟨⟨v', e1, h1⟩, h2⟩ := h
  exact ⟨⟨v', e1, h1.fresh hf ho⟩, h2⟩
theorem zero_fresh (w : World) (b : Nat) : FreshS w b zV zS := (zero_own w b).fresh (by decide) (by decide)
theorem RetF.bad {r : Except Int Sm} {er : Int} (hr : r = .error er) {w w' : World} (hb : Below w.heap.size w w') : RetF r w (.returned (.tuple #[zV, .int .i64 er])) w' := by
  subst hr
  exact ⟨⟨_, rfl, zero_fresh _ _⟩, hb⟩
theorem RetF.good {r : Except Int Sm} {s : Sm} (hr : r = .ok s) {v : Value} {w w' : World} (ho : FreshS w' w.heap.size v s) (hb : Below w.heap.size w w') : RetF r w (.returned (.tuple #[v, .int .i64 0])) w' := by
  subst hr
  exact ⟨⟨_, rfl, ho⟩, hb⟩

/-- a box with a state whose rows nobody else writes -/
structure Nf (w : World) (B nb : Nat) (A0 A1 : Option Addr) (c0 c1 : Nat) (s : Sm) : Prop where
  box : Blk w nb 25 #[.slice A0 s.files.length c0, .slice A1 s.opn.length c1, .int .i64 s.inp, .int .i64 s.out, .int .i64 s.nxt]
  caps : CapOk A0 s.files.length c0 ∧ CapOk A1 s.opn.length c1
  rows : ∀ W' : World, (∀ g, B ≤ g → g ≠ nb → g < w.heap.size → W'.heap[g]? = w.heap[g]?) → w.heap.size ≤ W'.heap.size → FilesAt W' W'.heap.size A0 s.files.length s.files ∧ OpensAt W' W'.heap.size A1 s.opn.length s.opn
section
variable {w w' : World} {B nb : Nat} {A0 A1 : Option Addr} {c0 c1 : Nat} {s : Sm}
theorem Nf.setIn (h : Nf w B nb A0 A1 c0 c1 s) (x : Int) : Nf (w.setCell ⟨nb, 2, none⟩ (.int .i64 x)) B nb A0 A1 c0 c1 { s with inp := x } :=
  ⟨by have := h.box.set_ 2 (.int .i64 x); simpa using this, h.caps, fun W' hk hz => h.rows W' (fun g h1 h2 h3 => (hk g h1 h2 (by simpa [World.setCell] using h3)).trans (heap_setCell_other _ _ _ _ (by simpa using h2))) (by simpa [World.setCell] using hz)⟩
theorem Nf.setOut (h : Nf w B nb A0 A1 c0 c1 s) (x : Int) : Nf (w.setCell ⟨nb, 3, none⟩ (.int .i64 x)) B nb A0 A1 c0 c1 { s with out := x } :=
  ⟨by have := h.box.set_ 3 (.int .i64 x); simpa using this, h.caps, fun W' hk hz => h.rows W' (fun g h1 h2 h3 => (hk g h1 h2 (by simpa [World.setCell] using h3)).trans (heap_setCell_other _ _ _ _ (by simpa using h2))) (by simpa [World.setCell] using hz)⟩
theorem Nf.out (h : Nf w B nb A0 A1 c0 c1 s) : FreshS w B (smV A0 A1 c0 c1 s) s :=
  ⟨A0, c0, A1, c1, rfl, fun W' hk hz => by
    obtain ⟨h1, h2⟩ := h.rows W' (fun g a _ b => hk g a b) hz
    exact ⟨A0, c0, A1, c1, rfl, h.caps, h1, h2⟩⟩
theorem Nf.cells (h : Nf w B nb A0 A1 c0 c1 s) : (w.cell? ⟨nb, 0, none⟩ = some (.slice A0 s.files.length c0) ∧ w.cell? ⟨nb, 1, none⟩ = some (.slice A1 s.opn.length c1) ∧ w.cell? ⟨nb, 2, none⟩ = some (.int .i64 s.inp) ∧ w.cell? ⟨nb, 3, none⟩ = some (.int .i64 s.out) ∧ w.cell? ⟨nb, 4, none⟩ = some (.int .i64 s.nxt)) ∧ (∀ o, w.frozen? ⟨nb, o, none⟩ = false) ∧ nb < w.heap.size :=
  ⟨smBox' h.box, fun o => h.box.frozen o, h.box.lt⟩
end
theorem Nr.nf {w : World} {B nb : Nat} {v0 v1 : Value} {s : Sm} (h : Nr w B nb v0 v1 s) (hf : s.files.length ≤ 4398046511104) (ho : s.opn.length ≤ 1954687338268) : ∃ A0 A1 c0 c1, v0 = .slice A0 s.files.length c0 ∧ v1 = .slice A1 s.opn.length c1 ∧ Nf w B nb A0 A1 c0 c1 s := by
  have r0 := h.r0
  have r1 := h.r1
  obtain ⟨A0, c0, rfl, k0⟩ := own_form r0
  obtain ⟨A1, c1, rfl, k1⟩ := own_form r1
  refine ⟨A0, A1, c0, c1, rfl, rfl, h.box, ⟨k0, k1⟩, fun W' hk hz => ⟨?_, ?_⟩⟩
  · have hs := own_stay (w' := W') r0 fun g hg => hk g (r0.lt g hg).1 (fun e => h.n0 (by rw [← e]; exact hg)) (r0.lt g hg).2
    obtain ⟨A, c, e, -, -, h2⟩ := own_files hs hf
    injection e with e
    subst e
    exact h2
  · have hs := own_stay (w' := W') r1 fun g hg => hk g (r1.lt g hg).1 (fun e => h.n1 (by rw [← e]; exact hg)) (r1.lt g hg).2
    obtain ⟨A, c, e, -, -, h2⟩ := own_opens hs ho
    injection e with e
    subst e
    exact h2
/-- the last stream is cut off -/
theorem Nr.cutLast {w : World} {B nb i D0c g cap : Nat} {D0 : Option Addr} {s : Sm} (h : Nr w B nb (.slice D0 s.files.length D0c) (.slice (some ⟨g, 0, none⟩) s.opn.length cap) s) (hi : i + 1 = s.opn.length) (hf : s.files.length ≤ 4398046511104) (ho : s.opn.length ≤ 1954687338268) :
    Nf (w.setCell ⟨nb, 1, none⟩ (.slice (some ⟨g, 0, none⟩) i i)) B nb D0 (some ⟨g, 0, none⟩) D0c i { s with opn := s.opn.eraseIdx i } := by
  have hle : (s.opn.eraseIdx i).length = i := by rw [List.length_eraseIdx, if_pos (by omega)]; omega
  obtain ⟨A, A', d, d', e1, e2, h2⟩ := h.nf hf ho
  injection e1 with e1a _ e1c
  injection e2 with e2a _ e2c
  subst e1a e1c e2a e2c
  refine ⟨?_, ⟨h2.caps.1, ?_⟩, fun W' hk hz => ?_⟩
  · have := h.box.set_ 1 (.slice (some ⟨g, 0, none⟩) i i)
    show Blk _ nb 25 #[_, .slice (some ⟨g, 0, none⟩) (s.opn.eraseIdx i).length i, _, _, _]
    rw [hle]
    simpa using this
  · show CapOk _ (s.opn.eraseIdx i).length i
    rw [hle]
    exact ⟨Nat.le_refl _, fun e => by cases e⟩
  · obtain ⟨r0, r1⟩ := h2.rows W' (fun g a b c => (hk g a b (by simpa [World.setCell] using c)).trans (heap_setCell_other _ _ _ _ (by simpa using b))) (by simpa [World.setCell] using hz)
    refine ⟨r0, ?_⟩
    show OpensAt _ _ _ (s.opn.eraseIdx i).length (s.opn.eraseIdx i)
    rw [hle]
    refine ⟨⟨hle, by omega⟩, fun hn => ?_⟩
    obtain ⟨b, off, e, hb, hc⟩ := r1.2 (by omega)
    refine ⟨b, off, e, hb, fun j x hx => hc j x ?_⟩
    rw [List.getElem?_eraseIdx] at hx
    split at hx
    · exact hx
    · have := (List.getElem?_eq_some_iff.1 hx).1
      omega
end Go.Proofs.Ytklpghpfdeojeaa
