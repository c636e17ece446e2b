/-
  Memory: two copies of a block; a block stored into a variable.
-/
import Derived.Test.YtbipeakinmbdiaaGreatDoorXLg
import Derived.Test.YtbipeakinmbdiaaGreatDoorKt
namespace Go.Proofs.YtbipeakinmbdiaaGreatDoor
open Go.RowKit

section
variable {P : Program} {ops : Array Oper} {Q : Exit → Act → World → Prop} {md : Region.Mode} {S : World → Prop} {need : Nat → Bool}
/-- one of three operations comes up -/
theorem wpAnyN_three {i j k : Nat} {oi oj ok : Oper} {fuel : Nat} {listed : Array Bool} {a : Act} {w : World} (hr : Region.ready md ops listed = [i, j, k]) (hoi : ops[i]? = some oi) (hoj : ops[j]? = some oj) (hok : ops[k]? = some ok)
    (h1 : ∀ K : Act → World → Prop, (∀ a w, (need i = true → S w) → wpAnyN P md ops Q S need fuel (listed.setIfInBounds i true) a w → K a w) → if Region.wanted oi (yielded ops a.tmps) = true then Oper.wp P oi a w K Q else K (a.put oi.dst undef) w)
    (h2 : ∀ K : Act → World → Prop, (∀ a w, (need j = true → S w) → wpAnyN P md ops Q S need fuel (listed.setIfInBounds j true) a w → K a w) → if Region.wanted oj (yielded ops a.tmps) = true then Oper.wp P oj a w K Q else K (a.put oj.dst undef) w)
    (h3 : ∀ K : Act → World → Prop, (∀ a w, (need k = true → S w) → wpAnyN P md ops Q S need fuel (listed.setIfInBounds k true) a w → K a w) → if Region.wanted ok (yielded ops a.tmps) = true then Oper.wp P ok a w K Q else K (a.put ok.dst undef) w) :
    wpAnyN P md ops Q S need (fuel + 1) listed a w := by
  refine ⟨fun h0 => absurd (hr ▸ h0) (by simp), fun q hq => ?_⟩
  rw [hr] at hq
  simp only [List.mem_cons, List.not_mem_nil, or_false] at hq
  rcases hq with rfl | rfl | rfl
  · exact wpOp_step hoi (fun K' hK => h1 K' (fun a w hS hW => hK a w ⟨hS, hW⟩))
  · exact wpOp_step hoj (fun K' hK => h2 K' (fun a w hS hW => hK a w ⟨hS, hW⟩))
  · exact wpOp_step hok (fun K' hK => h3 K' (fun a w hS hW => hK a w ⟨hS, hW⟩))
end
/-- two copies of a block, each in a variable -/
structure TwoC (w w' : World) (b : Bk) (p q : Nat) (A B : Option Addr) (c d : Nat) : Prop where
  k : Below w.heap.size w w'
  bp : Blk w' p 28 (bkC b A b.code.length c)
  bq : Blk w' q 28 (bkC b B b.code.length d)
  oa : w'.ownsRow w.heap.size 34 6 (.slice A b.code.length c) b.code.length (aCs b.code)
  ob : w'.ownsRow w.heap.size 34 6 (.slice B b.code.length d) b.code.length (aCs b.code)
  ne : p ≠ q ∧ w.heap.size ≤ p ∧ w.heap.size ≤ q
  na : ∀ g, (Value.slice A b.code.length c).ownBlock = some g → g ≠ p ∧ g ≠ q
  nb : ∀ g, (Value.slice B b.code.length d).ownBlock = some g → g ≠ p ∧ g ≠ q
  ab : ∀ g h, (Value.slice A b.code.length c).ownBlock = some g → (Value.slice B b.code.length d).ownBlock = some h → g ≠ h
/-- a block stored into a variable -/
@[reducible] def setB (w : World) (q : Nat) (b : Bk) (A : Option Addr) (n c : Nat) : World :=
  ((((((((w.setCell ⟨q, 0, none⟩ (.int .i64 b.id)).setCell ⟨q, 1, none⟩ (.string b.pn)).setCell ⟨q, 2, none⟩ (.int .i64 b.par)).setCell ⟨q, 3, none⟩ (.int .i64 b.paux)).setCell ⟨q, 4, none⟩ (.int .i64 b.kk)).setCell ⟨q, 5, none⟩ (.int .i64 b.kn)).setCell ⟨q, 6, none⟩ (.string b.knm)).setCell ⟨q, 7, none⟩ (.int .i64 b.kar)).setCell ⟨q, 8, none⟩ (.slice A n c)
theorem setB_same {w : World} {q : Nat} {cs : Array Value} (h : Blk w q 28 cs) (hc : cs.size = 9) (b : Bk) (A : Option Addr) (n c : Nat) : Blk (setB w q b A n c) q 28 (bkC b A n c) := by
  have h2 := ((((((((h.set_ 0 (.int .i64 b.id)).set_ 1 (.string b.pn)).set_ 2 (.int .i64 b.par)).set_ 3 (.int .i64 b.paux)).set_ 4 (.int .i64 b.kk)).set_ 5 (.int .i64 b.kn)).set_ 6 (.string b.knm)).set_ 7 (.int .i64 b.kar)).set_ 8 (.slice A n c)
  obtain ⟨v0, v1, v2, v3, v4, v5, v6, v7, v8, rfl⟩ := arr9 hc
  simpa using h2
theorem setB_far {w : World} {q g : Nat} {t : TypeId} {cs : Array Value} (h : Blk w g t cs) (hg : g ≠ q) (b : Bk) (A : Option Addr) (n c : Nat) : Blk (setB w q b A n c) g t cs :=
  ((((((((h.far hg _).far hg _).far hg _).far hg _).far hg _).far hg _).far hg _).far hg _).far hg _
theorem setB_below {W w : World} {q B : Nat} (h : Below B W w) (hq : B ≤ q) (b : Bk) (A : Option Addr) (n c : Nat) : Below B W (setB w q b A n c) :=
  ((((((((h.setCell hq _).setCell hq _).setCell hq _).setCell hq _).setCell hq _).setCell hq _).setCell hq _).setCell hq _).setCell hq _
theorem setB_own {w : World} {q base n0 : Nat} {v : Value} {xs : List Value} (h : w.ownsRow base 34 6 v n0 xs) (hv : ∀ g, v.ownBlock = some g → g ≠ q) (b : Bk) (A : Option Addr) (n c : Nat) : (setB w q b A n c).ownsRow base 34 6 v n0 xs := by
  have hh : v.ownBlock ≠ some q := fun e => hv q e rfl
  exact ownsRow_setCell_other (ownsRow_setCell_other (ownsRow_setCell_other (ownsRow_setCell_other (ownsRow_setCell_other (ownsRow_setCell_other (ownsRow_setCell_other (ownsRow_setCell_other (ownsRow_setCell_other h hh _) hh _) hh _) hh _) hh _) hh _) hh _) hh _) hh _
end Go.Proofs.YtbipeakinmbdiaaGreatDoor
