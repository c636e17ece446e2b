/-
  Small laws on memory: one block changed; a state whose rows lie apart from two blocks; three operations come up.
-/
import Derived.Test.YtklpghpfdeojeaaVd
import Derived.Test.YtklpghpfdeojeaaVb
import Derived.Test.YtklpghpfdeojeaaRegT
import Derived.Test.YtklpghpfdeojeaaOa
namespace Go.Proofs.Ytklpghpfdeojeaa
open Go.RowKit

section
variable {P : Program} {ops : Array Oper} {Q : Exit → Act → World → Prop} {md : Region.Mode} {S : World → Prop} {need : Nat → Bool}
/-- one of three operations comes up -/
theorem wpAnyN_three {i j k : Nat} {oi oj ok : Oper} {fuel : Nat} {listed : Array Bool} {a : Act} {w : World} (hr : Region.ready md ops listed = [i, j, k]) (hoi : ops[i]? = some oi) (hoj : ops[j]? = some oj) (hok : ops[k]? = some ok)
    (h1 : ∀ K : Act → World → Prop, (∀ a w, (need i = true → S w) → wpAnyN P md ops Q S need fuel (listed.setIfInBounds i true) a w → K a w) → if Region.wanted oi (yielded ops a.tmps) = true then Oper.wp P oi a w K Q else K (a.put oi.dst undef) w)
    (h2 : ∀ K : Act → World → Prop, (∀ a w, (need j = true → S w) → wpAnyN P md ops Q S need fuel (listed.setIfInBounds j true) a w → K a w) → if Region.wanted oj (yielded ops a.tmps) = true then Oper.wp P oj a w K Q else K (a.put oj.dst undef) w)
    (h3 : ∀ K : Act → World → Prop, (∀ a w, (need k = true → S w) → wpAnyN P md ops Q S need fuel (listed.setIfInBounds k true) a w → K a w) → if Region.wanted ok (yielded ops a.tmps) = true then Oper.wp P ok a w K Q else K (a.put ok.dst undef) w) :
    wpAnyN P md ops Q S need (fuel + 1) listed a w := by
  refine ⟨fun h0 => absurd (hr ▸ h0) (by simp), fun q hq => ?_⟩
  rw [hr] at hq
  simp only [List.mem_cons, List.not_mem_nil, or_false] at hq
  rcases hq with rfl | rfl | rfl
  · exact wpOp_step hoi (fun K' hK => h1 K' (fun a w hS hW => hK a w ⟨hS, hW⟩))
  · exact wpOp_step hoj (fun K' hK => h2 K' (fun a w hS hW => hK a w ⟨hS, hW⟩))
  · exact wpOp_step hok (fun K' hK => h3 K' (fun a w hS hW => hK a w ⟨hS, hW⟩))
end
/-- one block alone is changed -/
structure Upd (p : Nat) (w w' : World) : Prop where
  os : w'.os = w.os
  tape : w'.tape = w.tape
  output : w'.output = w.output
  size : w'.heap.size = w.heap.size
  block : ∀ g, g ≠ p → w'.heap[g]? = w.heap[g]?
theorem Upd.refl (p : Nat) (w : World) : Upd p w w := ⟨rfl, rfl, rfl, rfl, fun _ _ => rfl⟩
theorem Upd.set {p : Nat} {w w' : World} (h : Upd p w w') (o : Nat) (u : Value) : Upd p w (w'.setCell ⟨p, o, none⟩ u) := by
  have hb : Below 0 w' (w'.setCell ⟨p, o, none⟩ u) := (Below.refl _ _).setCell (Nat.zero_le _) _
  exact ⟨hb.os.trans h.os, hb.tape.trans h.tape, hb.output.trans h.output, (by simp : (w'.setCell ⟨p, o, none⟩ u).heap.size = w'.heap.size).trans h.size, fun g hg => (heap_setCell_other _ _ _ _ (by simpa using hg)).trans (h.block g hg)⟩
theorem Upd.below {p B : Nat} {x w w' : World} (h : Upd p w w') (hb : Below B x w) (hp : B ≤ p) : Below B x w' :=
  ⟨h.os.trans hb.os, h.tape.trans hb.tape, h.output.trans hb.output, by rw [h.size]; exact hb.size, fun g hg => (h.block g (by omega)).trans (hb.block g hg)⟩
theorem Upd.blk {p g t : Nat} {cs : Array Value} {w w' : World} (h : Upd p w w') (hk : Blk w g t cs) (hg : g ≠ p) : Blk w' g t cs := (h.block g hg).trans hk
theorem put5 {w : World} {p : Nat} {a0 a1 a2 a3 a4 b0 b1 b2 b3 b4 : Value} (h : Blk w p 25 #[b0, b1, b2, b3, b4]) :
    Blk (((((w.setCell ⟨p, 0, none⟩ a0).setCell ⟨p, 1, none⟩ a1).setCell ⟨p, 2, none⟩ a2).setCell ⟨p, 3, none⟩ a3).setCell ⟨p, 4, none⟩ a4) p 25 #[a0, a1, a2, a3, a4] ∧
      Upd p w (((((w.setCell ⟨p, 0, none⟩ a0).setCell ⟨p, 1, none⟩ a1).setCell ⟨p, 2, none⟩ a2).setCell ⟨p, 3, none⟩ a3).setCell ⟨p, 4, none⟩ a4) := by
  refine ⟨?_, (((((Upd.refl p w).set 0 a0).set 1 a1).set 2 a2).set 3 a3).set 4 a4⟩
  have := ((((h.set_ 0 a0).set_ 1 a1).set_ 2 a2).set_ 3 a3).set_ 4 a4
  simpa using this
theorem put4 {w : World} {p : Nat} {a0 a1 a2 a3 b0 b1 b2 b3 : Value} (h : Blk w p 61 #[b0, b1, b2, b3]) :
    Blk ((((w.setCell ⟨p, 0, none⟩ a0).setCell ⟨p, 1, none⟩ a1).setCell ⟨p, 2, none⟩ a2).setCell ⟨p, 3, none⟩ a3) p 61 #[a0, a1, a2, a3] ∧
      Upd p w ((((w.setCell ⟨p, 0, none⟩ a0).setCell ⟨p, 1, none⟩ a1).setCell ⟨p, 2, none⟩ a2).setCell ⟨p, 3, none⟩ a3) := by
  refine ⟨?_, ((((Upd.refl p w).set 0 a0).set 1 a1).set 2 a2).set 3 a3⟩
  have := (((h.set_ 0 a0).set_ 1 a1).set_ 2 a2).set_ 3 a3
  simpa using this
/-- a state whose rows lie neither in block p nor in block q -/
def ApartS (p q : Nat) (w : World) (v : Value) (s : Sm) : Prop :=
  ∃ A0 c0 A1 c1, v = smV A0 A1 c0 c1 s ∧ ∀ W' : World, (∀ g, g ≠ p → g ≠ q → g < w.heap.size → W'.heap[g]? = w.heap[g]?) → w.heap.size ≤ W'.heap.size → SmAt W' W'.heap.size v s
section
variable {p q : Nat} {w w' : World} {v : Value} {s : Sm}
theorem ApartS.at (h : ApartS p q w v s) : SmAt w w.heap.size v s := by
  obtain ⟨A0, c0, A1, c1, e, hk⟩ := h
  exact hk w (fun _ _ _ _ => rfl) (Nat.le_refl _)
theorem ApartS.stay (h : ApartS p q w v s) (hk : ∀ g, g ≠ p → g ≠ q → g < w.heap.size → w'.heap[g]? = w.heap[g]?) (hz : w.heap.size ≤ w'.heap.size) : ApartS p q w' v s := by
  obtain ⟨A0, c0, A1, c1, e, h2⟩ := h
  exact ⟨A0, c0, A1, c1, e, fun W' hk' hz' => h2 W' (fun g h1 h3 h4 => (hk' g h1 h3 (by omega)).trans (hk g h1 h3 h4)) (by omega)⟩
theorem ApartS.next (h : ApartS p q w v s) (hb : Below w.heap.size w w') : ApartS p q w' v s := h.stay (fun g _ _ hg => hb.block g hg) hb.size
theorem ApartS.upd (h : ApartS p q w v s) (hu : Upd p w w') : ApartS p q w' v s := h.stay (fun g hg _ _ => hu.block g hg) (by rw [hu.size]; exact Nat.le_refl _)
theorem ApartS.upd' (h : ApartS p q w v s) (hu : Upd q w w') : ApartS p q w' v s := h.stay (fun g _ hg _ => hu.block g hg) (by rw [hu.size]; exact Nat.le_refl _)
theorem FreshS.apart {b : Nat} (h : FreshS w b v s) (hp : p < b ∨ w.heap.size ≤ p) (hq : q < b ∨ w.heap.size ≤ q) : ApartS p q w v s := by
  obtain ⟨A0, c0, A1, c1, e, h2⟩ := h
  exact ⟨A0, c0, A1, c1, e, fun W' hk' hz' => h2 W' (fun g h1 h3 => hk' g (by omega) (by omega) h3) hz'⟩
end
theorem bnd {s : Sm} (h : validB s = true) : s.files.length ≤ 4398046511104 ∧ s.opn.length ≤ 1954687338268 := by
  obtain ⟨h1, h2, -⟩ := valid_head h
  exact ⟨by omega, by omega⟩
end Go.Proofs.Ytklpghpfdeojeaa
