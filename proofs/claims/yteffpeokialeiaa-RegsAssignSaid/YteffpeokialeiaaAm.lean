/-
  Plain: what a well-formed instruction reads and writes, and how it may be renamed.
-/
import Derived.Test.YteffpeokialeiaaAl
namespace Go.Proofs.Yteffpeokialeiaa
open Go.RowKit

def fits (u : Bool) (ok : Int → Bool) (v : Int) : Prop := match u with | true => ok v = true | false => v = 0
/-- an instruction's kind: which registers it has, what it reads and writes, whatever they are -/
structure Kd (x : In) (ur ua : Bool) (F G : Int → Int → List Int) : Prop where
  r : fits ur rOk x.r
  a : fits ua aOk x.a
  ren : ∀ r' a', fits ur rOk r' → fits ua aOk a' → fo { x with r := r', a := a' } = true ∧ rdOf { x with r := r', a := a' } = F r' a' ∧ wrOf { x with r := r', a := a' } = G r' a'
theorem fo_op {x : In} (h : fo x = true) : okOp x.op = true := by
  unfold fo at h
  simp only [Bool.and_eq_true] at h
  exact h.1.1
/-- the kinds -/
def Kinds (x : In) : Prop :=
  Kd x true true (fun _ a => [a]) (fun r _ => [r]) ∨
  Kd x true true (fun r a => if [r].contains a then [r] else [r, a]) (fun _ _ => []) ∨
  Kd x false true (fun _ a => [a]) (fun _ _ => []) ∨
  Kd x true false (fun _ _ => []) (fun r _ => [r]) ∨
  Kd x true false (fun r _ => [r]) (fun _ _ => []) ∨
  Kd x false false (fun _ _ => []) (fun _ _ => []) ∨
  Kd x true true (fun _ _ => []) (fun r a => if [r].contains a then [r] else [r, a]) ∨
  Kd x true true (fun r _ => [r]) (fun _ a => [a]) ∨
  Kd x false true (fun _ _ => []) (fun _ a => [a]) ∨
  Kd x false false (fun _ _ => (List.range x.ar.toNat).map fun i : Nat => (i : Int) + 1) (fun _ _ => []) ∧ (x.op = 19 ∨ x.op = 20) ∧ 0 ≤ x.ar ∧ x.ar ≤ 4096
theorem kind1 (r a n : Int) (nm : ByteArray) (ar : Int) (h : fo ⟨1, r, a, n, nm, ar⟩ = true) : Kinds ⟨1, r, a, n, nm, ar⟩ := by
  rw [fo1] at h
  simp [sameI] at h
  have hren : ∀ r' a', fits true rOk r' → fits true aOk a' → fo ⟨1, r', a', n, nm, ar⟩ = true := fun r' a' h1 h2 => by
    unfold fits at h1 h2
    simp only at h1 h2
    rw [fo1]
    simp [sameI, *]
  refine Or.inl ?_
  exact ⟨by unfold fits; simp [*], by unfold fits; simp [*], fun r' a' h1 h2 => ⟨hren r' a' h1 h2, by show rdOf ⟨1, _, _, _, _, _⟩ = _; rw [rd1, hren r' a' h1 h2]; rfl, by show wrOf ⟨1, _, _, _, _, _⟩ = _; rw [wr1, hren r' a' h1 h2]; rfl⟩⟩
theorem kind2 (r a n : Int) (nm : ByteArray) (ar : Int) (h : fo ⟨2, r, a, n, nm, ar⟩ = true) : Kinds ⟨2, r, a, n, nm, ar⟩ := by
  rw [fo2] at h
  simp [sameI] at h
  have hren : ∀ r' a', fits true rOk r' → fits true aOk a' → fo ⟨2, r', a', n, nm, ar⟩ = true := fun r' a' h1 h2 => by
    unfold fits at h1 h2
    simp only at h1 h2
    rw [fo2]
    simp [sameI, *]
  refine Or.inr (Or.inl ?_)
  exact ⟨by unfold fits; simp [*], by unfold fits; simp [*], fun r' a' h1 h2 => ⟨hren r' a' h1 h2, by show rdOf ⟨2, _, _, _, _, _⟩ = _; rw [rd2, hren r' a' h1 h2]; rfl, by show wrOf ⟨2, _, _, _, _, _⟩ = _; rw [wr2, hren r' a' h1 h2]; rfl⟩⟩
theorem kind3 (r a n : Int) (nm : ByteArray) (ar : Int) (h : fo ⟨3, r, a, n, nm, ar⟩ = true) : Kinds ⟨3, r, a, n, nm, ar⟩ := by
  rw [fo3] at h
  simp [sameI] at h
  have hren : ∀ r' a', fits false rOk r' → fits true aOk a' → fo ⟨3, r', a', n, nm, ar⟩ = true := fun r' a' h1 h2 => by
    unfold fits at h1 h2
    simp only at h1 h2
    rw [fo3]
    simp [sameI, *]
  refine Or.inr (Or.inr (Or.inl ?_))
  exact ⟨by unfold fits; simp [*], by unfold fits; simp [*], fun r' a' h1 h2 => ⟨hren r' a' h1 h2, by show rdOf ⟨3, _, _, _, _, _⟩ = _; rw [rd3, hren r' a' h1 h2]; rfl, by show wrOf ⟨3, _, _, _, _, _⟩ = _; rw [wr3, hren r' a' h1 h2]; rfl⟩⟩
theorem kind4 (r a n : Int) (nm : ByteArray) (ar : Int) (h : fo ⟨4, r, a, n, nm, ar⟩ = true) : Kinds ⟨4, r, a, n, nm, ar⟩ := by
  rw [fo4] at h
  simp [sameI] at h
  have hren : ∀ r' a', fits false rOk r' → fits true aOk a' → fo ⟨4, r', a', n, nm, ar⟩ = true := fun r' a' h1 h2 => by
    unfold fits at h1 h2
    simp only at h1 h2
    rw [fo4]
    simp [sameI, *]
  refine Or.inr (Or.inr (Or.inl ?_))
  exact ⟨by unfold fits; simp [*], by unfold fits; simp [*], fun r' a' h1 h2 => ⟨hren r' a' h1 h2, by show rdOf ⟨4, _, _, _, _, _⟩ = _; rw [rd4, hren r' a' h1 h2]; rfl, by show wrOf ⟨4, _, _, _, _, _⟩ = _; rw [wr4, hren r' a' h1 h2]; rfl⟩⟩
theorem kind5 (r a n : Int) (nm : ByteArray) (ar : Int) (h : fo ⟨5, r, a, n, nm, ar⟩ = true) : Kinds ⟨5, r, a, n, nm, ar⟩ := by
  rw [fo5] at h
  simp [sameI] at h
  have hren : ∀ r' a', fits false rOk r' → fits true aOk a' → fo ⟨5, r', a', n, nm, ar⟩ = true := fun r' a' h1 h2 => by
    unfold fits at h1 h2
    simp only at h1 h2
    rw [fo5]
    simp [sameI, *]
  refine Or.inr (Or.inr (Or.inl ?_))
  exact ⟨by unfold fits; simp [*], by unfold fits; simp [*], fun r' a' h1 h2 => ⟨hren r' a' h1 h2, by show rdOf ⟨5, _, _, _, _, _⟩ = _; rw [rd5, hren r' a' h1 h2]; rfl, by show wrOf ⟨5, _, _, _, _, _⟩ = _; rw [wr5, hren r' a' h1 h2]; rfl⟩⟩
theorem kind6 (r a n : Int) (nm : ByteArray) (ar : Int) (h : fo ⟨6, r, a, n, nm, ar⟩ = true) : Kinds ⟨6, r, a, n, nm, ar⟩ := by
  rw [fo6] at h
  simp [sameI] at h
  have hren : ∀ r' a', fits true rOk r' → fits false aOk a' → fo ⟨6, r', a', n, nm, ar⟩ = true := fun r' a' h1 h2 => by
    unfold fits at h1 h2
    simp only at h1 h2
    rw [fo6]
    simp [sameI, *]
  refine Or.inr (Or.inr (Or.inr (Or.inl ?_)))
  exact ⟨by unfold fits; simp [*], by unfold fits; simp [*], fun r' a' h1 h2 => ⟨hren r' a' h1 h2, by show rdOf ⟨6, _, _, _, _, _⟩ = _; rw [rd6, hren r' a' h1 h2]; rfl, by show wrOf ⟨6, _, _, _, _, _⟩ = _; rw [wr6, hren r' a' h1 h2]; rfl⟩⟩
theorem kind7 (r a n : Int) (nm : ByteArray) (ar : Int) (h : fo ⟨7, r, a, n, nm, ar⟩ = true) : Kinds ⟨7, r, a, n, nm, ar⟩ := by
  rw [fo7] at h
  simp [sameI] at h
  have hren : ∀ r' a', fits true rOk r' → fits false aOk a' → fo ⟨7, r', a', n, nm, ar⟩ = true := fun r' a' h1 h2 => by
    unfold fits at h1 h2
    simp only at h1 h2
    rw [fo7]
    simp [sameI, *]
  refine Or.inr (Or.inr (Or.inr (Or.inr (Or.inl ?_))))
  exact ⟨by unfold fits; simp [*], by unfold fits; simp [*], fun r' a' h1 h2 => ⟨hren r' a' h1 h2, by show rdOf ⟨7, _, _, _, _, _⟩ = _; rw [rd7, hren r' a' h1 h2]; rfl, by show wrOf ⟨7, _, _, _, _, _⟩ = _; rw [wr7, hren r' a' h1 h2]; rfl⟩⟩
theorem kind8 (r a n : Int) (nm : ByteArray) (ar : Int) (h : fo ⟨8, r, a, n, nm, ar⟩ = true) : Kinds ⟨8, r, a, n, nm, ar⟩ := by
  rw [fo8] at h
  simp [sameI] at h
  have hren : ∀ r' a', fits false rOk r' → fits false aOk a' → fo ⟨8, r', a', n, nm, ar⟩ = true := fun r' a' h1 h2 => by
    unfold fits at h1 h2
    simp only at h1 h2
    rw [fo8]
    simp [sameI, *]
  refine Or.inr (Or.inr (Or.inr (Or.inr (Or.inr (Or.inl ?_)))))
  exact ⟨by unfold fits; simp [*], by unfold fits; simp [*], fun r' a' h1 h2 => ⟨hren r' a' h1 h2, by show rdOf ⟨8, _, _, _, _, _⟩ = _; rw [rd8, hren r' a' h1 h2]; rfl, by show wrOf ⟨8, _, _, _, _, _⟩ = _; rw [wr8, hren r' a' h1 h2]; rfl⟩⟩
theorem kind9 (r a n : Int) (nm : ByteArray) (ar : Int) (h : fo ⟨9, r, a, n, nm, ar⟩ = true) : Kinds ⟨9, r, a, n, nm, ar⟩ := by
  rw [fo9] at h
  simp [sameI] at h
  have hren : ∀ r' a', fits false rOk r' → fits false aOk a' → fo ⟨9, r', a', n, nm, ar⟩ = true := fun r' a' h1 h2 => by
    unfold fits at h1 h2
    simp only at h1 h2
    rw [fo9]
    simp [sameI, *]
  refine Or.inr (Or.inr (Or.inr (Or.inr (Or.inr (Or.inl ?_)))))
  exact ⟨by unfold fits; simp [*], by unfold fits; simp [*], fun r' a' h1 h2 => ⟨hren r' a' h1 h2, by show rdOf ⟨9, _, _, _, _, _⟩ = _; rw [rd9, hren r' a' h1 h2]; rfl, by show wrOf ⟨9, _, _, _, _, _⟩ = _; rw [wr9, hren r' a' h1 h2]; rfl⟩⟩
theorem kind10 (r a n : Int) (nm : ByteArray) (ar : Int) (h : fo ⟨10, r, a, n, nm, ar⟩ = true) : Kinds ⟨10, r, a, n, nm, ar⟩ := by
  rw [fo10] at h
  simp [sameI] at h
  have hren : ∀ r' a', fits false rOk r' → fits false aOk a' → fo ⟨10, r', a', n, nm, ar⟩ = true := fun r' a' h1 h2 => by
    unfold fits at h1 h2
    simp only at h1 h2
    rw [fo10]
    simp [sameI, *]
  refine Or.inr (Or.inr (Or.inr (Or.inr (Or.inr (Or.inl ?_)))))
  exact ⟨by unfold fits; simp [*], by unfold fits; simp [*], fun r' a' h1 h2 => ⟨hren r' a' h1 h2, by show rdOf ⟨10, _, _, _, _, _⟩ = _; rw [rd10, hren r' a' h1 h2]; rfl, by show wrOf ⟨10, _, _, _, _, _⟩ = _; rw [wr10, hren r' a' h1 h2]; rfl⟩⟩
theorem kind11 (r a n : Int) (nm : ByteArray) (ar : Int) (h : fo ⟨11, r, a, n, nm, ar⟩ = true) : Kinds ⟨11, r, a, n, nm, ar⟩ := by
  rw [fo11] at h
  simp [sameI] at h
  have hren : ∀ r' a', fits true rOk r' → fits true aOk a' → fo ⟨11, r', a', n, nm, ar⟩ = true := fun r' a' h1 h2 => by
    unfold fits at h1 h2
    simp only at h1 h2
    rw [fo11]
    simp [sameI, *]
  refine Or.inr (Or.inr (Or.inr (Or.inr (Or.inr (Or.inr (Or.inl ?_))))))
  exact ⟨by unfold fits; simp [*], by unfold fits; simp [*], fun r' a' h1 h2 => ⟨hren r' a' h1 h2, by show rdOf ⟨11, _, _, _, _, _⟩ = _; rw [rd11, hren r' a' h1 h2]; rfl, by show wrOf ⟨11, _, _, _, _, _⟩ = _; rw [wr11, hren r' a' h1 h2]; rfl⟩⟩
theorem kind12 (r a n : Int) (nm : ByteArray) (ar : Int) (h : fo ⟨12, r, a, n, nm, ar⟩ = true) : Kinds ⟨12, r, a, n, nm, ar⟩ := by
  rw [fo12] at h
  simp [sameI] at h
  have hren : ∀ r' a', fits true rOk r' → fits true aOk a' → fo ⟨12, r', a', n, nm, ar⟩ = true := fun r' a' h1 h2 => by
    unfold fits at h1 h2
    simp only at h1 h2
    rw [fo12]
    simp [sameI, *]
  refine Or.inr (Or.inr (Or.inr (Or.inr (Or.inr (Or.inr (Or.inr (Or.inl ?_)))))))
  exact ⟨by unfold fits; simp [*], by unfold fits; simp [*], fun r' a' h1 h2 => ⟨hren r' a' h1 h2, by show rdOf ⟨12, _, _, _, _, _⟩ = _; rw [rd12, hren r' a' h1 h2]; rfl, by show wrOf ⟨12, _, _, _, _, _⟩ = _; rw [wr12, hren r' a' h1 h2]; rfl⟩⟩
theorem kind13 (r a n : Int) (nm : ByteArray) (ar : Int) (h : fo ⟨13, r, a, n, nm, ar⟩ = true) : Kinds ⟨13, r, a, n, nm, ar⟩ := by
  rw [fo13] at h
  simp [sameI] at h
  have hren : ∀ r' a', fits false rOk r' → fits true aOk a' → fo ⟨13, r', a', n, nm, ar⟩ = true := fun r' a' h1 h2 => by
    unfold fits at h1 h2
    simp only at h1 h2
    rw [fo13]
    simp [sameI, *]
  refine Or.inr (Or.inr (Or.inr (Or.inr (Or.inr (Or.inr (Or.inr (Or.inr (Or.inl ?_))))))))
  exact ⟨by unfold fits; simp [*], by unfold fits; simp [*], fun r' a' h1 h2 => ⟨hren r' a' h1 h2, by show rdOf ⟨13, _, _, _, _, _⟩ = _; rw [rd13, hren r' a' h1 h2]; rfl, by show wrOf ⟨13, _, _, _, _, _⟩ = _; rw [wr13, hren r' a' h1 h2]; rfl⟩⟩
theorem kind14 (r a n : Int) (nm : ByteArray) (ar : Int) (h : fo ⟨14, r, a, n, nm, ar⟩ = true) : Kinds ⟨14, r, a, n, nm, ar⟩ := by
  rw [fo14] at h
  simp [sameI] at h
  have hren : ∀ r' a', fits false rOk r' → fits true aOk a' → fo ⟨14, r', a', n, nm, ar⟩ = true := fun r' a' h1 h2 => by
    unfold fits at h1 h2
    simp only at h1 h2
    rw [fo14]
    simp [sameI, *]
  refine Or.inr (Or.inr (Or.inr (Or.inr (Or.inr (Or.inr (Or.inr (Or.inr (Or.inl ?_))))))))
  exact ⟨by unfold fits; simp [*], by unfold fits; simp [*], fun r' a' h1 h2 => ⟨hren r' a' h1 h2, by show rdOf ⟨14, _, _, _, _, _⟩ = _; rw [rd14, hren r' a' h1 h2]; rfl, by show wrOf ⟨14, _, _, _, _, _⟩ = _; rw [wr14, hren r' a' h1 h2]; rfl⟩⟩
theorem kind15 (r a n : Int) (nm : ByteArray) (ar : Int) (h : fo ⟨15, r, a, n, nm, ar⟩ = true) : Kinds ⟨15, r, a, n, nm, ar⟩ := by
  rw [fo15] at h
  simp [sameI] at h
  have hren : ∀ r' a', fits true rOk r' → fits false aOk a' → fo ⟨15, r', a', n, nm, ar⟩ = true := fun r' a' h1 h2 => by
    unfold fits at h1 h2
    simp only at h1 h2
    rw [fo15]
    simp [sameI, *]
  refine Or.inr (Or.inr (Or.inr (Or.inl ?_)))
  exact ⟨by unfold fits; simp [*], by unfold fits; simp [*], fun r' a' h1 h2 => ⟨hren r' a' h1 h2, by show rdOf ⟨15, _, _, _, _, _⟩ = _; rw [rd15, hren r' a' h1 h2]; rfl, by show wrOf ⟨15, _, _, _, _, _⟩ = _; rw [wr15, hren r' a' h1 h2]; rfl⟩⟩
theorem kind16 (r a n : Int) (nm : ByteArray) (ar : Int) (h : fo ⟨16, r, a, n, nm, ar⟩ = true) : Kinds ⟨16, r, a, n, nm, ar⟩ := by
  rw [fo16] at h
  simp [sameI] at h
  have hren : ∀ r' a', fits false rOk r' → fits false aOk a' → fo ⟨16, r', a', n, nm, ar⟩ = true := fun r' a' h1 h2 => by
    unfold fits at h1 h2
    simp only at h1 h2
    rw [fo16]
    simp [sameI, *]
  refine Or.inr (Or.inr (Or.inr (Or.inr (Or.inr (Or.inl ?_)))))
  exact ⟨by unfold fits; simp [*], by unfold fits; simp [*], fun r' a' h1 h2 => ⟨hren r' a' h1 h2, by show rdOf ⟨16, _, _, _, _, _⟩ = _; rw [rd16, hren r' a' h1 h2]; rfl, by show wrOf ⟨16, _, _, _, _, _⟩ = _; rw [wr16, hren r' a' h1 h2]; rfl⟩⟩
theorem kind17 (r a n : Int) (nm : ByteArray) (ar : Int) (h : fo ⟨17, r, a, n, nm, ar⟩ = true) : Kinds ⟨17, r, a, n, nm, ar⟩ := by
  rw [fo17] at h
  simp [sameI] at h
  have hren : ∀ r' a', fits false rOk r' → fits false aOk a' → fo ⟨17, r', a', n, nm, ar⟩ = true := fun r' a' h1 h2 => by
    unfold fits at h1 h2
    simp only at h1 h2
    rw [fo17]
    simp [sameI, *]
  refine Or.inr (Or.inr (Or.inr (Or.inr (Or.inr (Or.inl ?_)))))
  exact ⟨by unfold fits; simp [*], by unfold fits; simp [*], fun r' a' h1 h2 => ⟨hren r' a' h1 h2, by show rdOf ⟨17, _, _, _, _, _⟩ = _; rw [rd17, hren r' a' h1 h2]; rfl, by show wrOf ⟨17, _, _, _, _, _⟩ = _; rw [wr17, hren r' a' h1 h2]; rfl⟩⟩
theorem kind18 (r a n : Int) (nm : ByteArray) (ar : Int) (h : fo ⟨18, r, a, n, nm, ar⟩ = true) : Kinds ⟨18, r, a, n, nm, ar⟩ := by
  rw [fo18] at h
  simp [sameI] at h
  have hren : ∀ r' a', fits false rOk r' → fits false aOk a' → fo ⟨18, r', a', n, nm, ar⟩ = true := fun r' a' h1 h2 => by
    unfold fits at h1 h2
    simp only at h1 h2
    rw [fo18]
    simp [sameI, *]
  refine Or.inr (Or.inr (Or.inr (Or.inr (Or.inr (Or.inl ?_)))))
  exact ⟨by unfold fits; simp [*], by unfold fits; simp [*], fun r' a' h1 h2 => ⟨hren r' a' h1 h2, by show rdOf ⟨18, _, _, _, _, _⟩ = _; rw [rd18, hren r' a' h1 h2]; rfl, by show wrOf ⟨18, _, _, _, _, _⟩ = _; rw [wr18, hren r' a' h1 h2]; rfl⟩⟩
theorem kind19 (r a n : Int) (nm : ByteArray) (ar : Int) (h : fo ⟨19, r, a, n, nm, ar⟩ = true) : Kinds ⟨19, r, a, n, nm, ar⟩ := by
  rw [fo19] at h
  simp [sameI] at h
  have hren : ∀ r' a', fits false rOk r' → fits false aOk a' → fo ⟨19, r', a', n, nm, ar⟩ = true := fun r' a' h1 h2 => by
    unfold fits at h1 h2
    simp only at h1 h2
    rw [fo19]
    simp [sameI, *]
  refine Or.inr (Or.inr (Or.inr (Or.inr (Or.inr (Or.inr (Or.inr (Or.inr (Or.inr (?_)))))))))
  refine ⟨⟨by unfold fits; simp [*], by unfold fits; simp [*], fun r' a' h1 h2 => ⟨hren r' a' h1 h2, by show rdOf ⟨19, _, _, _, _, _⟩ = _; rw [rd19, hren r' a' h1 h2]; rfl, by show wrOf ⟨19, _, _, _, _, _⟩ = _; rw [wr19, hren r' a' h1 h2]; rfl⟩⟩, .inl rfl, ?_⟩
  have hp := h.1
  unfold pdOk at hp
  split at hp
  · simp at hp; exact ⟨hp.2.1, by show ar ≤ 4096; omega⟩
  · simp at hp; exact ⟨hp.2.2.2.1, hp.2.2.2.2⟩
theorem kind20 (r a n : Int) (nm : ByteArray) (ar : Int) (h : fo ⟨20, r, a, n, nm, ar⟩ = true) : Kinds ⟨20, r, a, n, nm, ar⟩ := by
  rw [fo20] at h
  simp [sameI] at h
  have hren : ∀ r' a', fits false rOk r' → fits false aOk a' → fo ⟨20, r', a', n, nm, ar⟩ = true := fun r' a' h1 h2 => by
    unfold fits at h1 h2
    simp only at h1 h2
    rw [fo20]
    simp [sameI, *]
  refine Or.inr (Or.inr (Or.inr (Or.inr (Or.inr (Or.inr (Or.inr (Or.inr (Or.inr (?_)))))))))
  refine ⟨⟨by unfold fits; simp [*], by unfold fits; simp [*], fun r' a' h1 h2 => ⟨hren r' a' h1 h2, by show rdOf ⟨20, _, _, _, _, _⟩ = _; rw [rd20, hren r' a' h1 h2]; rfl, by show wrOf ⟨20, _, _, _, _, _⟩ = _; rw [wr20, hren r' a' h1 h2]; rfl⟩⟩, .inr rfl, ?_⟩
  have hp := h.1
  unfold pdOk at hp
  split at hp
  · simp at hp; exact ⟨hp.2.1, by show ar ≤ 4096; omega⟩
  · simp at hp; exact ⟨hp.2.2.2.1, hp.2.2.2.2⟩
theorem kind21 (r a n : Int) (nm : ByteArray) (ar : Int) (h : fo ⟨21, r, a, n, nm, ar⟩ = true) : Kinds ⟨21, r, a, n, nm, ar⟩ := by
  rw [fo21] at h
  simp [sameI] at h
  have hren : ∀ r' a', fits false rOk r' → fits false aOk a' → fo ⟨21, r', a', n, nm, ar⟩ = true := fun r' a' h1 h2 => by
    unfold fits at h1 h2
    simp only at h1 h2
    rw [fo21]
    simp [sameI, *]
  refine Or.inr (Or.inr (Or.inr (Or.inr (Or.inr (Or.inl ?_)))))
  exact ⟨by unfold fits; simp [*], by unfold fits; simp [*], fun r' a' h1 h2 => ⟨hren r' a' h1 h2, by show rdOf ⟨21, _, _, _, _, _⟩ = _; rw [rd21, hren r' a' h1 h2]; rfl, by show wrOf ⟨21, _, _, _, _, _⟩ = _; rw [wr21, hren r' a' h1 h2]; rfl⟩⟩
theorem kind22 (r a n : Int) (nm : ByteArray) (ar : Int) (h : fo ⟨22, r, a, n, nm, ar⟩ = true) : Kinds ⟨22, r, a, n, nm, ar⟩ := by
  rw [fo22] at h
  simp [sameI] at h
  have hren : ∀ r' a', fits true rOk r' → fits false aOk a' → fo ⟨22, r', a', n, nm, ar⟩ = true := fun r' a' h1 h2 => by
    unfold fits at h1 h2
    simp only at h1 h2
    rw [fo22]
    simp [sameI, *]
  refine Or.inr (Or.inr (Or.inr (Or.inl ?_)))
  exact ⟨by unfold fits; simp [*], by unfold fits; simp [*], fun r' a' h1 h2 => ⟨hren r' a' h1 h2, by show rdOf ⟨22, _, _, _, _, _⟩ = _; rw [rd22, hren r' a' h1 h2]; rfl, by show wrOf ⟨22, _, _, _, _, _⟩ = _; rw [wr22, hren r' a' h1 h2]; rfl⟩⟩
theorem kind23 (r a n : Int) (nm : ByteArray) (ar : Int) (h : fo ⟨23, r, a, n, nm, ar⟩ = true) : Kinds ⟨23, r, a, n, nm, ar⟩ := by
  rw [fo23] at h
  simp [sameI] at h
  have hren : ∀ r' a', fits true rOk r' → fits false aOk a' → fo ⟨23, r', a', n, nm, ar⟩ = true := fun r' a' h1 h2 => by
    unfold fits at h1 h2
    simp only at h1 h2
    rw [fo23]
    simp [sameI, *]
  refine Or.inr (Or.inr (Or.inr (Or.inl ?_)))
  exact ⟨by unfold fits; simp [*], by unfold fits; simp [*], fun r' a' h1 h2 => ⟨hren r' a' h1 h2, by show rdOf ⟨23, _, _, _, _, _⟩ = _; rw [rd23, hren r' a' h1 h2]; rfl, by show wrOf ⟨23, _, _, _, _, _⟩ = _; rw [wr23, hren r' a' h1 h2]; rfl⟩⟩
theorem kind24 (r a n : Int) (nm : ByteArray) (ar : Int) (h : fo ⟨24, r, a, n, nm, ar⟩ = true) : Kinds ⟨24, r, a, n, nm, ar⟩ := by
  rw [fo24] at h
  simp [sameI] at h
  have hren : ∀ r' a', fits true rOk r' → fits false aOk a' → fo ⟨24, r', a', n, nm, ar⟩ = true := fun r' a' h1 h2 => by
    unfold fits at h1 h2
    simp only at h1 h2
    rw [fo24]
    simp [sameI, *]
  refine Or.inr (Or.inr (Or.inr (Or.inr (Or.inl ?_))))
  exact ⟨by unfold fits; simp [*], by unfold fits; simp [*], fun r' a' h1 h2 => ⟨hren r' a' h1 h2, by show rdOf ⟨24, _, _, _, _, _⟩ = _; rw [rd24, hren r' a' h1 h2]; rfl, by show wrOf ⟨24, _, _, _, _, _⟩ = _; rw [wr24, hren r' a' h1 h2]; rfl⟩⟩
theorem kind25 (r a n : Int) (nm : ByteArray) (ar : Int) (h : fo ⟨25, r, a, n, nm, ar⟩ = true) : Kinds ⟨25, r, a, n, nm, ar⟩ := by
  rw [fo25] at h
  simp [sameI] at h
  have hren : ∀ r' a', fits false rOk r' → fits false aOk a' → fo ⟨25, r', a', n, nm, ar⟩ = true := fun r' a' h1 h2 => by
    unfold fits at h1 h2
    simp only at h1 h2
    rw [fo25]
    simp [sameI, *]
  refine Or.inr (Or.inr (Or.inr (Or.inr (Or.inr (Or.inl ?_)))))
  exact ⟨by unfold fits; simp [*], by unfold fits; simp [*], fun r' a' h1 h2 => ⟨hren r' a' h1 h2, by show rdOf ⟨25, _, _, _, _, _⟩ = _; rw [rd25, hren r' a' h1 h2]; rfl, by show wrOf ⟨25, _, _, _, _, _⟩ = _; rw [wr25, hren r' a' h1 h2]; rfl⟩⟩
theorem kinds {x : In} (h : fo x = true) : Kinds x := by
  obtain ⟨op, r, a, n, nm, ar⟩ := x
  rcases op_cases (fo_op h) with h1 | h1 | h1 | h1 | h1 | h1 | h1 | h1 | h1 | h1 | h1 | h1 | h1 | h1 | h1 | h1 | h1 | h1 | h1 | h1 | h1 | h1 | h1 | h1 | h1
  · have h2 : op = 1 := h1
    subst h2; exact kind1 r a n nm ar h
  · have h2 : op = 2 := h1
    subst h2; exact kind2 r a n nm ar h
  · have h2 : op = 3 := h1
    subst h2; exact kind3 r a n nm ar h
  · have h2 : op = 4 := h1
    subst h2; exact kind4 r a n nm ar h
  · have h2 : op = 5 := h1
    subst h2; exact kind5 r a n nm ar h
  · have h2 : op = 6 := h1
    subst h2; exact kind6 r a n nm ar h
  · have h2 : op = 7 := h1
    subst h2; exact kind7 r a n nm ar h
  · have h2 : op = 8 := h1
    subst h2; exact kind8 r a n nm ar h
  · have h2 : op = 9 := h1
    subst h2; exact kind9 r a n nm ar h
  · have h2 : op = 10 := h1
    subst h2; exact kind10 r a n nm ar h
  · have h2 : op = 11 := h1
    subst h2; exact kind11 r a n nm ar h
  · have h2 : op = 12 := h1
    subst h2; exact kind12 r a n nm ar h
  · have h2 : op = 13 := h1
    subst h2; exact kind13 r a n nm ar h
  · have h2 : op = 14 := h1
    subst h2; exact kind14 r a n nm ar h
  · have h2 : op = 15 := h1
    subst h2; exact kind15 r a n nm ar h
  · have h2 : op = 16 := h1
    subst h2; exact kind16 r a n nm ar h
  · have h2 : op = 17 := h1
    subst h2; exact kind17 r a n nm ar h
  · have h2 : op = 18 := h1
    subst h2; exact kind18 r a n nm ar h
  · have h2 : op = 19 := h1
    subst h2; exact kind19 r a n nm ar h
  · have h2 : op = 20 := h1
    subst h2; exact kind20 r a n nm ar h
  · have h2 : op = 21 := h1
    subst h2; exact kind21 r a n nm ar h
  · have h2 : op = 22 := h1
    subst h2; exact kind22 r a n nm ar h
  · have h2 : op = 23 := h1
    subst h2; exact kind23 r a n nm ar h
  · have h2 : op = 24 := h1
    subst h2; exact kind24 r a n nm ar h
  · have h2 : op = 25 := h1
    subst h2; exact kind25 r a n nm ar h
end Go.Proofs.Yteffpeokialeiaa
