/-
  Plain: well-formed instructions in closed form, an opcode at a time. Plain: what a well-formed instruction reads and writes, and how it may be renamed. Walks: code.registers. Walks: code.Reads, code.Writes. Walks: the reference's registers. Walks: the reference's Reads, Writes.
-/
import Derived.Test.YtbipeakinmbdiaaGreatDoorKb
import Derived.Test.YtbipeakinmbdiaaGreatDoorKc
import Derived.Test.YtbipeakinmbdiaaGreatDoorKd
import Derived.Outline
import Derived.BigQuiet
import Derived.Deep.QuietTactic
namespace Go.Proofs.YtbipeakinmbdiaaGreatDoor
section
open Go.RowKit

theorem fo1 (r a n : Int) (nm : ByteArray) (ar : Int) : fo ⟨1, r, a, n, nm, ar⟩ = ((true && (rOk r && (aOk a && true))) && sameI ⟨1, r, a, n, nm, ar⟩ ⟨1, r, a, 0, ⟨#[]⟩, 0⟩) := by kernel_rfl
theorem rd1 (r a n : Int) (nm : ByteArray) (ar : Int) : rdOf ⟨1, r, a, n, nm, ar⟩ = if fo ⟨1, r, a, n, nm, ar⟩ then [a] else [] := by kernel_rfl
theorem wr1 (r a n : Int) (nm : ByteArray) (ar : Int) : wrOf ⟨1, r, a, n, nm, ar⟩ = if fo ⟨1, r, a, n, nm, ar⟩ then [r] else [] := by kernel_rfl
theorem fo2 (r a n : Int) (nm : ByteArray) (ar : Int) : fo ⟨2, r, a, n, nm, ar⟩ = ((true && (rOk r && (aOk a && true))) && sameI ⟨2, r, a, n, nm, ar⟩ ⟨2, r, a, 0, ⟨#[]⟩, 0⟩) := by kernel_rfl
theorem rd2 (r a n : Int) (nm : ByteArray) (ar : Int) : rdOf ⟨2, r, a, n, nm, ar⟩ = if fo ⟨2, r, a, n, nm, ar⟩ then (if [r].contains a then [r] else [r, a]) else [] := by kernel_rfl
theorem wr2 (r a n : Int) (nm : ByteArray) (ar : Int) : wrOf ⟨2, r, a, n, nm, ar⟩ = if fo ⟨2, r, a, n, nm, ar⟩ then [] else [] := by kernel_rfl
theorem fo3 (r a n : Int) (nm : ByteArray) (ar : Int) : fo ⟨3, r, a, n, nm, ar⟩ = ((true && (aOk a && (true && true))) && sameI ⟨3, r, a, n, nm, ar⟩ ⟨3, 0, a, n, ⟨#[]⟩, 0⟩) := by kernel_rfl
theorem rd3 (r a n : Int) (nm : ByteArray) (ar : Int) : rdOf ⟨3, r, a, n, nm, ar⟩ = if fo ⟨3, r, a, n, nm, ar⟩ then [a] else [] := by kernel_rfl
theorem wr3 (r a n : Int) (nm : ByteArray) (ar : Int) : wrOf ⟨3, r, a, n, nm, ar⟩ = if fo ⟨3, r, a, n, nm, ar⟩ then [] else [] := by kernel_rfl
theorem fo4 (r a n : Int) (nm : ByteArray) (ar : Int) : fo ⟨4, r, a, n, nm, ar⟩ = ((true && (aOk a && (nmOk nm && true))) && sameI ⟨4, r, a, n, nm, ar⟩ ⟨4, 0, a, 0, nm, 0⟩) := by kernel_rfl
theorem rd4 (r a n : Int) (nm : ByteArray) (ar : Int) : rdOf ⟨4, r, a, n, nm, ar⟩ = if fo ⟨4, r, a, n, nm, ar⟩ then [a] else [] := by kernel_rfl
theorem wr4 (r a n : Int) (nm : ByteArray) (ar : Int) : wrOf ⟨4, r, a, n, nm, ar⟩ = if fo ⟨4, r, a, n, nm, ar⟩ then [] else [] := by kernel_rfl
theorem fo5 (r a n : Int) (nm : ByteArray) (ar : Int) : fo ⟨5, r, a, n, nm, ar⟩ = ((true && (aOk a && ((nmOk nm && (decide (1 ≤ ar) && decide (ar ≤ 8))) && true))) && sameI ⟨5, r, a, n, nm, ar⟩ ⟨5, 0, a, 0, nm, ar⟩) := by kernel_rfl
theorem rd5 (r a n : Int) (nm : ByteArray) (ar : Int) : rdOf ⟨5, r, a, n, nm, ar⟩ = if fo ⟨5, r, a, n, nm, ar⟩ then [a] else [] := by kernel_rfl
theorem wr5 (r a n : Int) (nm : ByteArray) (ar : Int) : wrOf ⟨5, r, a, n, nm, ar⟩ = if fo ⟨5, r, a, n, nm, ar⟩ then [] else [] := by kernel_rfl
theorem fo6 (r a n : Int) (nm : ByteArray) (ar : Int) : fo ⟨6, r, a, n, nm, ar⟩ = ((true && (rOk r && true)) && sameI ⟨6, r, a, n, nm, ar⟩ ⟨6, r, 0, 0, ⟨#[]⟩, 0⟩) := by kernel_rfl
theorem rd6 (r a n : Int) (nm : ByteArray) (ar : Int) : rdOf ⟨6, r, a, n, nm, ar⟩ = if fo ⟨6, r, a, n, nm, ar⟩ then [] else [] := by kernel_rfl
theorem wr6 (r a n : Int) (nm : ByteArray) (ar : Int) : wrOf ⟨6, r, a, n, nm, ar⟩ = if fo ⟨6, r, a, n, nm, ar⟩ then [r] else [] := by kernel_rfl
theorem fo7 (r a n : Int) (nm : ByteArray) (ar : Int) : fo ⟨7, r, a, n, nm, ar⟩ = ((true && (rOk r && true)) && sameI ⟨7, r, a, n, nm, ar⟩ ⟨7, r, 0, 0, ⟨#[]⟩, 0⟩) := by kernel_rfl
theorem rd7 (r a n : Int) (nm : ByteArray) (ar : Int) : rdOf ⟨7, r, a, n, nm, ar⟩ = if fo ⟨7, r, a, n, nm, ar⟩ then [r] else [] := by kernel_rfl
theorem wr7 (r a n : Int) (nm : ByteArray) (ar : Int) : wrOf ⟨7, r, a, n, nm, ar⟩ = if fo ⟨7, r, a, n, nm, ar⟩ then [] else [] := by kernel_rfl
theorem fo8 (r a n : Int) (nm : ByteArray) (ar : Int) : fo ⟨8, r, a, n, nm, ar⟩ = ((true && (true && true)) && sameI ⟨8, r, a, n, nm, ar⟩ ⟨8, 0, 0, n, ⟨#[]⟩, 0⟩) := by kernel_rfl
theorem rd8 (r a n : Int) (nm : ByteArray) (ar : Int) : rdOf ⟨8, r, a, n, nm, ar⟩ = if fo ⟨8, r, a, n, nm, ar⟩ then [] else [] := by kernel_rfl
theorem wr8 (r a n : Int) (nm : ByteArray) (ar : Int) : wrOf ⟨8, r, a, n, nm, ar⟩ = if fo ⟨8, r, a, n, nm, ar⟩ then [] else [] := by kernel_rfl
theorem fo9 (r a n : Int) (nm : ByteArray) (ar : Int) : fo ⟨9, r, a, n, nm, ar⟩ = ((true && (nmOk nm && true)) && sameI ⟨9, r, a, n, nm, ar⟩ ⟨9, 0, 0, 0, nm, 0⟩) := by kernel_rfl
theorem rd9 (r a n : Int) (nm : ByteArray) (ar : Int) : rdOf ⟨9, r, a, n, nm, ar⟩ = if fo ⟨9, r, a, n, nm, ar⟩ then [] else [] := by kernel_rfl
theorem wr9 (r a n : Int) (nm : ByteArray) (ar : Int) : wrOf ⟨9, r, a, n, nm, ar⟩ = if fo ⟨9, r, a, n, nm, ar⟩ then [] else [] := by kernel_rfl
theorem fo10 (r a n : Int) (nm : ByteArray) (ar : Int) : fo ⟨10, r, a, n, nm, ar⟩ = ((true && ((decide (1 ≤ n) && decide (n ≤ 8)) && true)) && sameI ⟨10, r, a, n, nm, ar⟩ ⟨10, 0, 0, n, ⟨#[]⟩, 0⟩) := by kernel_rfl
theorem rd10 (r a n : Int) (nm : ByteArray) (ar : Int) : rdOf ⟨10, r, a, n, nm, ar⟩ = if fo ⟨10, r, a, n, nm, ar⟩ then [] else [] := by kernel_rfl
theorem wr10 (r a n : Int) (nm : ByteArray) (ar : Int) : wrOf ⟨10, r, a, n, nm, ar⟩ = if fo ⟨10, r, a, n, nm, ar⟩ then [] else [] := by kernel_rfl
theorem fo11 (r a n : Int) (nm : ByteArray) (ar : Int) : fo ⟨11, r, a, n, nm, ar⟩ = ((true && (rOk r && (aOk a && true))) && sameI ⟨11, r, a, n, nm, ar⟩ ⟨11, r, a, 0, ⟨#[]⟩, 0⟩) := by kernel_rfl
theorem rd11 (r a n : Int) (nm : ByteArray) (ar : Int) : rdOf ⟨11, r, a, n, nm, ar⟩ = if fo ⟨11, r, a, n, nm, ar⟩ then [] else [] := by kernel_rfl
theorem wr11 (r a n : Int) (nm : ByteArray) (ar : Int) : wrOf ⟨11, r, a, n, nm, ar⟩ = if fo ⟨11, r, a, n, nm, ar⟩ then (if [r].contains a then [r] else [r, a]) else [] := by kernel_rfl
theorem fo12 (r a n : Int) (nm : ByteArray) (ar : Int) : fo ⟨12, r, a, n, nm, ar⟩ = ((true && (rOk r && (aOk a && true))) && sameI ⟨12, r, a, n, nm, ar⟩ ⟨12, r, a, 0, ⟨#[]⟩, 0⟩) := by kernel_rfl
theorem rd12 (r a n : Int) (nm : ByteArray) (ar : Int) : rdOf ⟨12, r, a, n, nm, ar⟩ = if fo ⟨12, r, a, n, nm, ar⟩ then [r] else [] := by kernel_rfl
theorem wr12 (r a n : Int) (nm : ByteArray) (ar : Int) : wrOf ⟨12, r, a, n, nm, ar⟩ = if fo ⟨12, r, a, n, nm, ar⟩ then [a] else [] := by kernel_rfl
theorem fo13 (r a n : Int) (nm : ByteArray) (ar : Int) : fo ⟨13, r, a, n, nm, ar⟩ = ((true && (aOk a && (true && true))) && sameI ⟨13, r, a, n, nm, ar⟩ ⟨13, 0, a, n, ⟨#[]⟩, 0⟩) := by kernel_rfl
theorem rd13 (r a n : Int) (nm : ByteArray) (ar : Int) : rdOf ⟨13, r, a, n, nm, ar⟩ = if fo ⟨13, r, a, n, nm, ar⟩ then [] else [] := by kernel_rfl
theorem wr13 (r a n : Int) (nm : ByteArray) (ar : Int) : wrOf ⟨13, r, a, n, nm, ar⟩ = if fo ⟨13, r, a, n, nm, ar⟩ then [a] else [] := by kernel_rfl
theorem fo14 (r a n : Int) (nm : ByteArray) (ar : Int) : fo ⟨14, r, a, n, nm, ar⟩ = ((true && (aOk a && (nmOk nm && true))) && sameI ⟨14, r, a, n, nm, ar⟩ ⟨14, 0, a, 0, nm, 0⟩) := by kernel_rfl
theorem rd14 (r a n : Int) (nm : ByteArray) (ar : Int) : rdOf ⟨14, r, a, n, nm, ar⟩ = if fo ⟨14, r, a, n, nm, ar⟩ then [] else [] := by kernel_rfl
theorem wr14 (r a n : Int) (nm : ByteArray) (ar : Int) : wrOf ⟨14, r, a, n, nm, ar⟩ = if fo ⟨14, r, a, n, nm, ar⟩ then [a] else [] := by kernel_rfl
theorem fo15 (r a n : Int) (nm : ByteArray) (ar : Int) : fo ⟨15, r, a, n, nm, ar⟩ = ((true && (rOk r && ((nmOk nm && (decide (1 ≤ ar) && decide (ar ≤ 8))) && true))) && sameI ⟨15, r, a, n, nm, ar⟩ ⟨15, r, 0, 0, nm, ar⟩) := by kernel_rfl
theorem rd15 (r a n : Int) (nm : ByteArray) (ar : Int) : rdOf ⟨15, r, a, n, nm, ar⟩ = if fo ⟨15, r, a, n, nm, ar⟩ then [] else [] := by kernel_rfl
theorem wr15 (r a n : Int) (nm : ByteArray) (ar : Int) : wrOf ⟨15, r, a, n, nm, ar⟩ = if fo ⟨15, r, a, n, nm, ar⟩ then [r] else [] := by kernel_rfl
theorem fo16 (r a n : Int) (nm : ByteArray) (ar : Int) : fo ⟨16, r, a, n, nm, ar⟩ = ((true && ((decide (0 ≤ n) && decide (n ≤ 4096)) && true)) && sameI ⟨16, r, a, n, nm, ar⟩ ⟨16, 0, 0, n, ⟨#[]⟩, 0⟩) := by kernel_rfl
theorem rd16 (r a n : Int) (nm : ByteArray) (ar : Int) : rdOf ⟨16, r, a, n, nm, ar⟩ = if fo ⟨16, r, a, n, nm, ar⟩ then [] else [] := by kernel_rfl
theorem wr16 (r a n : Int) (nm : ByteArray) (ar : Int) : wrOf ⟨16, r, a, n, nm, ar⟩ = if fo ⟨16, r, a, n, nm, ar⟩ then [] else [] := by kernel_rfl
theorem fo17 (r a n : Int) (nm : ByteArray) (ar : Int) : fo ⟨17, r, a, n, nm, ar⟩ = ((true && ((decide (0 ≤ n) && decide (n ≤ 4096)) && true)) && sameI ⟨17, r, a, n, nm, ar⟩ ⟨17, 0, 0, n, ⟨#[]⟩, 0⟩) := by kernel_rfl
theorem rd17 (r a n : Int) (nm : ByteArray) (ar : Int) : rdOf ⟨17, r, a, n, nm, ar⟩ = if fo ⟨17, r, a, n, nm, ar⟩ then [] else [] := by kernel_rfl
theorem wr17 (r a n : Int) (nm : ByteArray) (ar : Int) : wrOf ⟨17, r, a, n, nm, ar⟩ = if fo ⟨17, r, a, n, nm, ar⟩ then [] else [] := by kernel_rfl
theorem fo18 (r a n : Int) (nm : ByteArray) (ar : Int) : fo ⟨18, r, a, n, nm, ar⟩ = ((true && true) && sameI ⟨18, r, a, n, nm, ar⟩ ⟨18, 0, 0, 0, ⟨#[]⟩, 0⟩) := by kernel_rfl
theorem rd18 (r a n : Int) (nm : ByteArray) (ar : Int) : rdOf ⟨18, r, a, n, nm, ar⟩ = if fo ⟨18, r, a, n, nm, ar⟩ then [] else [] := by kernel_rfl
theorem wr18 (r a n : Int) (nm : ByteArray) (ar : Int) : wrOf ⟨18, r, a, n, nm, ar⟩ = if fo ⟨18, r, a, n, nm, ar⟩ then [] else [] := by kernel_rfl
theorem fo19 (r a n : Int) (nm : ByteArray) (ar : Int) : fo ⟨19, r, a, n, nm, ar⟩ = ((true && (pdOk nm ar n && true)) && sameI ⟨19, r, a, n, nm, ar⟩ ⟨19, 0, 0, n, nm, ar⟩) := by kernel_rfl
theorem rd19 (r a n : Int) (nm : ByteArray) (ar : Int) : rdOf ⟨19, r, a, n, nm, ar⟩ = if fo ⟨19, r, a, n, nm, ar⟩ then (List.range ar.toNat).map fun i : Nat => (i : Int) + 1 else [] := by kernel_rfl
theorem wr19 (r a n : Int) (nm : ByteArray) (ar : Int) : wrOf ⟨19, r, a, n, nm, ar⟩ = if fo ⟨19, r, a, n, nm, ar⟩ then [] else [] := by kernel_rfl
theorem fo20 (r a n : Int) (nm : ByteArray) (ar : Int) : fo ⟨20, r, a, n, nm, ar⟩ = ((true && (pdOk nm ar n && true)) && sameI ⟨20, r, a, n, nm, ar⟩ ⟨20, 0, 0, n, nm, ar⟩) := by kernel_rfl
theorem rd20 (r a n : Int) (nm : ByteArray) (ar : Int) : rdOf ⟨20, r, a, n, nm, ar⟩ = if fo ⟨20, r, a, n, nm, ar⟩ then (List.range ar.toNat).map fun i : Nat => (i : Int) + 1 else [] := by kernel_rfl
theorem wr20 (r a n : Int) (nm : ByteArray) (ar : Int) : wrOf ⟨20, r, a, n, nm, ar⟩ = if fo ⟨20, r, a, n, nm, ar⟩ then [] else [] := by kernel_rfl
theorem fo21 (r a n : Int) (nm : ByteArray) (ar : Int) : fo ⟨21, r, a, n, nm, ar⟩ = ((true && true) && sameI ⟨21, r, a, n, nm, ar⟩ ⟨21, 0, 0, 0, ⟨#[]⟩, 0⟩) := by kernel_rfl
theorem rd21 (r a n : Int) (nm : ByteArray) (ar : Int) : rdOf ⟨21, r, a, n, nm, ar⟩ = if fo ⟨21, r, a, n, nm, ar⟩ then [] else [] := by kernel_rfl
theorem wr21 (r a n : Int) (nm : ByteArray) (ar : Int) : wrOf ⟨21, r, a, n, nm, ar⟩ = if fo ⟨21, r, a, n, nm, ar⟩ then [] else [] := by kernel_rfl
theorem fo22 (r a n : Int) (nm : ByteArray) (ar : Int) : fo ⟨22, r, a, n, nm, ar⟩ = ((true && (rOk r && true)) && sameI ⟨22, r, a, n, nm, ar⟩ ⟨22, r, 0, 0, ⟨#[]⟩, 0⟩) := by kernel_rfl
theorem rd22 (r a n : Int) (nm : ByteArray) (ar : Int) : rdOf ⟨22, r, a, n, nm, ar⟩ = if fo ⟨22, r, a, n, nm, ar⟩ then [] else [] := by kernel_rfl
theorem wr22 (r a n : Int) (nm : ByteArray) (ar : Int) : wrOf ⟨22, r, a, n, nm, ar⟩ = if fo ⟨22, r, a, n, nm, ar⟩ then [r] else [] := by kernel_rfl
theorem fo23 (r a n : Int) (nm : ByteArray) (ar : Int) : fo ⟨23, r, a, n, nm, ar⟩ = ((true && (rOk r && true)) && sameI ⟨23, r, a, n, nm, ar⟩ ⟨23, r, 0, 0, ⟨#[]⟩, 0⟩) := by kernel_rfl
theorem rd23 (r a n : Int) (nm : ByteArray) (ar : Int) : rdOf ⟨23, r, a, n, nm, ar⟩ = if fo ⟨23, r, a, n, nm, ar⟩ then [] else [] := by kernel_rfl
theorem wr23 (r a n : Int) (nm : ByteArray) (ar : Int) : wrOf ⟨23, r, a, n, nm, ar⟩ = if fo ⟨23, r, a, n, nm, ar⟩ then [r] else [] := by kernel_rfl
theorem fo24 (r a n : Int) (nm : ByteArray) (ar : Int) : fo ⟨24, r, a, n, nm, ar⟩ = ((true && (rOk r && true)) && sameI ⟨24, r, a, n, nm, ar⟩ ⟨24, r, 0, 0, ⟨#[]⟩, 0⟩) := by kernel_rfl
theorem rd24 (r a n : Int) (nm : ByteArray) (ar : Int) : rdOf ⟨24, r, a, n, nm, ar⟩ = if fo ⟨24, r, a, n, nm, ar⟩ then [r] else [] := by kernel_rfl
theorem wr24 (r a n : Int) (nm : ByteArray) (ar : Int) : wrOf ⟨24, r, a, n, nm, ar⟩ = if fo ⟨24, r, a, n, nm, ar⟩ then [] else [] := by kernel_rfl
theorem fo25 (r a n : Int) (nm : ByteArray) (ar : Int) : fo ⟨25, r, a, n, nm, ar⟩ = ((true && true) && sameI ⟨25, r, a, n, nm, ar⟩ ⟨25, 0, 0, 0, ⟨#[]⟩, 0⟩) := by kernel_rfl
theorem rd25 (r a n : Int) (nm : ByteArray) (ar : Int) : rdOf ⟨25, r, a, n, nm, ar⟩ = if fo ⟨25, r, a, n, nm, ar⟩ then [] else [] := by kernel_rfl
theorem wr25 (r a n : Int) (nm : ByteArray) (ar : Int) : wrOf ⟨25, r, a, n, nm, ar⟩ = if fo ⟨25, r, a, n, nm, ar⟩ then [] else [] := by kernel_rfl
end
section
open Go.RowKit

def fits (u : Bool) (ok : Int → Bool) (v : Int) : Prop := match u with | true => ok v = true | false => v = 0
/-- an instruction's kind: which registers it has, what it reads and writes, whatever they are -/
structure Kd (x : In) (ur ua : Bool) (F G : Int → Int → List Int) : Prop where
  r : fits ur rOk x.r
  a : fits ua aOk x.a
  ren : ∀ r' a', fits ur rOk r' → fits ua aOk a' → fo { x with r := r', a := a' } = true ∧ rdOf { x with r := r', a := a' } = F r' a' ∧ wrOf { x with r := r', a := a' } = G r' a'
theorem fo_op {x : In} (h : fo x = true) : okOp x.op = true := by
  unfold fo at h
  simp only [Bool.and_eq_true] at h
  exact h.1.1
/-- the kinds -/
def Kinds (x : In) : Prop :=
  Kd x true true (fun _ a => [a]) (fun r _ => [r]) ∨
  Kd x true true (fun r a => if [r].contains a then [r] else [r, a]) (fun _ _ => []) ∨
  Kd x false true (fun _ a => [a]) (fun _ _ => []) ∨
  Kd x true false (fun _ _ => []) (fun r _ => [r]) ∨
  Kd x true false (fun r _ => [r]) (fun _ _ => []) ∨
  Kd x false false (fun _ _ => []) (fun _ _ => []) ∨
  Kd x true true (fun _ _ => []) (fun r a => if [r].contains a then [r] else [r, a]) ∨
  Kd x true true (fun r _ => [r]) (fun _ a => [a]) ∨
  Kd x false true (fun _ _ => []) (fun _ a => [a]) ∨
  Kd x false false (fun _ _ => (List.range x.ar.toNat).map fun i : Nat => (i : Int) + 1) (fun _ _ => []) ∧ (x.op = 19 ∨ x.op = 20) ∧ 0 ≤ x.ar ∧ x.ar ≤ 4096
theorem kind1 (r a n : Int) (nm : ByteArray) (ar : Int) (h : fo ⟨1, r, a, n, nm, ar⟩ = true) : Kinds ⟨1, r, a, n, nm, ar⟩ := by
  rw [fo1] at h
  simp [sameI] at h
  have hren : ∀ r' a', fits true rOk r' → fits true aOk a' → fo ⟨1, r', a', n, nm, ar⟩ = true := fun r' a' h1 h2 => by
    unfold fits at h1 h2
    simp only at h1 h2
    rw [fo1]
    simp [sameI, *]
  refine Or.inl ?_
  exact ⟨by unfold fits; simp [*], by unfold fits; simp [*], fun r' a' h1 h2 => ⟨hren r' a' h1 h2, by show rdOf ⟨1, _, _, _, _, _⟩ = _; rw [rd1, hren r' a' h1 h2]; rfl, by show wrOf ⟨1, _, _, _, _, _⟩ = _; rw [wr1, hren r' a' h1 h2]; rfl⟩⟩
theorem kind2 (r a n : Int) (nm : ByteArray) (ar : Int) (h : fo ⟨2, r, a, n, nm, ar⟩ = true) : Kinds ⟨2, r, a, n, nm, ar⟩ := by
  rw [fo2] at h
  simp [sameI] at h
  have hren : ∀ r' a', fits true rOk r' → fits true aOk a' → fo ⟨2, r', a', n, nm, ar⟩ = true := fun r' a' h1 h2 => by
    unfold fits at h1 h2
    simp only at h1 h2
    rw [fo2]
    simp [sameI, *]
  refine Or.inr (Or.inl ?_)
  exact ⟨by unfold fits; simp [*], by unfold fits; simp [*], fun r' a' h1 h2 => ⟨hren r' a' h1 h2, by show rdOf ⟨2, _, _, _, _, _⟩ = _; rw [rd2, hren r' a' h1 h2]; rfl, by show wrOf ⟨2, _, _, _, _, _⟩ = _; rw [wr2, hren r' a' h1 h2]; rfl⟩⟩
theorem kind3 (r a n : Int) (nm : ByteArray) (ar : Int) (h : fo ⟨3, r, a, n, nm, ar⟩ = true) : Kinds ⟨3, r, a, n, nm, ar⟩ := by
  rw [fo3] at h
  simp [sameI] at h
  have hren : ∀ r' a', fits false rOk r' → fits true aOk a' → fo ⟨3, r', a', n, nm, ar⟩ = true := fun r' a' h1 h2 => by
    unfold fits at h1 h2
    simp only at h1 h2
    rw [fo3]
    simp [sameI, *]
  refine Or.inr (Or.inr (Or.inl ?_))
  exact ⟨by unfold fits; simp [*], by unfold fits; simp [*], fun r' a' h1 h2 => ⟨hren r' a' h1 h2, by show rdOf ⟨3, _, _, _, _, _⟩ = _; rw [rd3, hren r' a' h1 h2]; rfl, by show wrOf ⟨3, _, _, _, _, _⟩ = _; rw [wr3, hren r' a' h1 h2]; rfl⟩⟩
theorem kind4 (r a n : Int) (nm : ByteArray) (ar : Int) (h : fo ⟨4, r, a, n, nm, ar⟩ = true) : Kinds ⟨4, r, a, n, nm, ar⟩ := by
  rw [fo4] at h
  simp [sameI] at h
  have hren : ∀ r' a', fits false rOk r' → fits true aOk a' → fo ⟨4, r', a', n, nm, ar⟩ = true := fun r' a' h1 h2 => by
    unfold fits at h1 h2
    simp only at h1 h2
    rw [fo4]
    simp [sameI, *]
  refine Or.inr (Or.inr (Or.inl ?_))
  exact ⟨by unfold fits; simp [*], by unfold fits; simp [*], fun r' a' h1 h2 => ⟨hren r' a' h1 h2, by show rdOf ⟨4, _, _, _, _, _⟩ = _; rw [rd4, hren r' a' h1 h2]; rfl, by show wrOf ⟨4, _, _, _, _, _⟩ = _; rw [wr4, hren r' a' h1 h2]; rfl⟩⟩
theorem kind5 (r a n : Int) (nm : ByteArray) (ar : Int) (h : fo ⟨5, r, a, n, nm, ar⟩ = true) : Kinds ⟨5, r, a, n, nm, ar⟩ := by
  rw [fo5] at h
  simp [sameI] at h
  have hren : ∀ r' a', fits false rOk r' → fits true aOk a' → fo ⟨5, r', a', n, nm, ar⟩ = true := fun r' a' h1 h2 => by
    unfold fits at h1 h2
    simp only at h1 h2
    rw [fo5]
    simp [sameI, *]
  refine Or.inr (Or.inr (Or.inl ?_))
  exact ⟨by unfold fits; simp [*], by unfold fits; simp [*], fun r' a' h1 h2 => ⟨hren r' a' h1 h2, by show rdOf ⟨5, _, _, _, _, _⟩ = _; rw [rd5, hren r' a' h1 h2]; rfl, by show wrOf ⟨5, _, _, _, _, _⟩ = _; rw [wr5, hren r' a' h1 h2]; rfl⟩⟩
theorem kind6 (r a n : Int) (nm : ByteArray) (ar : Int) (h : fo ⟨6, r, a, n, nm, ar⟩ = true) : Kinds ⟨6, r, a, n, nm, ar⟩ := by
  rw [fo6] at h
  simp [sameI] at h
  have hren : ∀ r' a', fits true rOk r' → fits false aOk a' → fo ⟨6, r', a', n, nm, ar⟩ = true := fun r' a' h1 h2 => by
    unfold fits at h1 h2
    simp only at h1 h2
    rw [fo6]
    simp [sameI, *]
  refine Or.inr (Or.inr (Or.inr (Or.inl ?_)))
  exact ⟨by unfold fits; simp [*], by unfold fits; simp [*], fun r' a' h1 h2 => ⟨hren r' a' h1 h2, by show rdOf ⟨6, _, _, _, _, _⟩ = _; rw [rd6, hren r' a' h1 h2]; rfl, by show wrOf ⟨6, _, _, _, _, _⟩ = _; rw [wr6, hren r' a' h1 h2]; rfl⟩⟩
theorem kind7 (r a n : Int) (nm : ByteArray) (ar : Int) (h : fo ⟨7, r, a, n, nm, ar⟩ = true) : Kinds ⟨7, r, a, n, nm, ar⟩ := by
  rw [fo7] at h
  simp [sameI] at h
  have hren : ∀ r' a', fits true rOk r' → fits false aOk a' → fo ⟨7, r', a', n, nm, ar⟩ = true := fun r' a' h1 h2 => by
    unfold fits at h1 h2
    simp only at h1 h2
    rw [fo7]
    simp [sameI, *]
  refine Or.inr (Or.inr (Or.inr (Or.inr (Or.inl ?_))))
  exact ⟨by unfold fits; simp [*], by unfold fits; simp [*], fun r' a' h1 h2 => ⟨hren r' a' h1 h2, by show rdOf ⟨7, _, _, _, _, _⟩ = _; rw [rd7, hren r' a' h1 h2]; rfl, by show wrOf ⟨7, _, _, _, _, _⟩ = _; rw [wr7, hren r' a' h1 h2]; rfl⟩⟩
theorem kind8 (r a n : Int) (nm : ByteArray) (ar : Int) (h : fo ⟨8, r, a, n, nm, ar⟩ = true) : Kinds ⟨8, r, a, n, nm, ar⟩ := by
  rw [fo8] at h
  simp [sameI] at h
  have hren : ∀ r' a', fits false rOk r' → fits false aOk a' → fo ⟨8, r', a', n, nm, ar⟩ = true := fun r' a' h1 h2 => by
    unfold fits at h1 h2
    simp only at h1 h2
    rw [fo8]
    simp [sameI, *]
  refine Or.inr (Or.inr (Or.inr (Or.inr (Or.inr (Or.inl ?_)))))
  exact ⟨by unfold fits; simp [*], by unfold fits; simp [*], fun r' a' h1 h2 => ⟨hren r' a' h1 h2, by show rdOf ⟨8, _, _, _, _, _⟩ = _; rw [rd8, hren r' a' h1 h2]; rfl, by show wrOf ⟨8, _, _, _, _, _⟩ = _; rw [wr8, hren r' a' h1 h2]; rfl⟩⟩
theorem kind9 (r a n : Int) (nm : ByteArray) (ar : Int) (h : fo ⟨9, r, a, n, nm, ar⟩ = true) : Kinds ⟨9, r, a, n, nm, ar⟩ := by
  rw [fo9] at h
  simp [sameI] at h
  have hren : ∀ r' a', fits false rOk r' → fits false aOk a' → fo ⟨9, r', a', n, nm, ar⟩ = true := fun r' a' h1 h2 => by
    unfold fits at h1 h2
    simp only at h1 h2
    rw [fo9]
    simp [sameI, *]
  refine Or.inr (Or.inr (Or.inr (Or.inr (Or.inr (Or.inl ?_)))))
  exact ⟨by unfold fits; simp [*], by unfold fits; simp [*], fun r' a' h1 h2 => ⟨hren r' a' h1 h2, by show rdOf ⟨9, _, _, _, _, _⟩ = _; rw [rd9, hren r' a' h1 h2]; rfl, by show wrOf ⟨9, _, _, _, _, _⟩ = _; rw [wr9, hren r' a' h1 h2]; rfl⟩⟩
theorem kind10 (r a n : Int) (nm : ByteArray) (ar : Int) (h : fo ⟨10, r, a, n, nm, ar⟩ = true) : Kinds ⟨10, r, a, n, nm, ar⟩ := by
  rw [fo10] at h
  simp [sameI] at h
  have hren : ∀ r' a', fits false rOk r' → fits false aOk a' → fo ⟨10, r', a', n, nm, ar⟩ = true := fun r' a' h1 h2 => by
    unfold fits at h1 h2
    simp only at h1 h2
    rw [fo10]
    simp [sameI, *]
  refine Or.inr (Or.inr (Or.inr (Or.inr (Or.inr (Or.inl ?_)))))
  exact ⟨by unfold fits; simp [*], by unfold fits; simp [*], fun r' a' h1 h2 => ⟨hren r' a' h1 h2, by show rdOf ⟨10, _, _, _, _, _⟩ = _; rw [rd10, hren r' a' h1 h2]; rfl, by show wrOf ⟨10, _, _, _, _, _⟩ = _; rw [wr10, hren r' a' h1 h2]; rfl⟩⟩
theorem kind11 (r a n : Int) (nm : ByteArray) (ar : Int) (h : fo ⟨11, r, a, n, nm, ar⟩ = true) : Kinds ⟨11, r, a, n, nm, ar⟩ := by
  rw [fo11] at h
  simp [sameI] at h
  have hren : ∀ r' a', fits true rOk r' → fits true aOk a' → fo ⟨11, r', a', n, nm, ar⟩ = true := fun r' a' h1 h2 => by
    unfold fits at h1 h2
    simp only at h1 h2
    rw [fo11]
    simp [sameI, *]
  refine Or.inr (Or.inr (Or.inr (Or.inr (Or.inr (Or.inr (Or.inl ?_))))))
  exact ⟨by unfold fits; simp [*], by unfold fits; simp [*], fun r' a' h1 h2 => ⟨hren r' a' h1 h2, by show rdOf ⟨11, _, _, _, _, _⟩ = _; rw [rd11, hren r' a' h1 h2]; rfl, by show wrOf ⟨11, _, _, _, _, _⟩ = _; rw [wr11, hren r' a' h1 h2]; rfl⟩⟩
theorem kind12 (r a n : Int) (nm : ByteArray) (ar : Int) (h : fo ⟨12, r, a, n, nm, ar⟩ = true) : Kinds ⟨12, r, a, n, nm, ar⟩ := by
  rw [fo12] at h
  simp [sameI] at h
  have hren : ∀ r' a', fits true rOk r' → fits true aOk a' → fo ⟨12, r', a', n, nm, ar⟩ = true := fun r' a' h1 h2 => by
    unfold fits at h1 h2
    simp only at h1 h2
    rw [fo12]
    simp [sameI, *]
  refine Or.inr (Or.inr (Or.inr (Or.inr (Or.inr (Or.inr (Or.inr (Or.inl ?_)))))))
  exact ⟨by unfold fits; simp [*], by unfold fits; simp [*], fun r' a' h1 h2 => ⟨hren r' a' h1 h2, by show rdOf ⟨12, _, _, _, _, _⟩ = _; rw [rd12, hren r' a' h1 h2]; rfl, by show wrOf ⟨12, _, _, _, _, _⟩ = _; rw [wr12, hren r' a' h1 h2]; rfl⟩⟩
theorem kind13 (r a n : Int) (nm : ByteArray) (ar : Int) (h : fo ⟨13, r, a, n, nm, ar⟩ = true) : Kinds ⟨13, r, a, n, nm, ar⟩ := by
  rw [fo13] at h
  simp [sameI] at h
  have hren : ∀ r' a', fits false rOk r' → fits true aOk a' → fo ⟨13, r', a', n, nm, ar⟩ = true := fun r' a' h1 h2 => by
    unfold fits at h1 h2
    simp only at h1 h2
    rw [fo13]
    simp [sameI, *]
  refine Or.inr (Or.inr (Or.inr (Or.inr (Or.inr (Or.inr (Or.inr (Or.inr (Or.inl ?_))))))))
  exact ⟨by unfold fits; simp [*], by unfold fits; simp [*], fun r' a' h1 h2 => ⟨hren r' a' h1 h2, by show rdOf ⟨13, _, _, _, _, _⟩ = _; rw [rd13, hren r' a' h1 h2]; rfl, by show wrOf ⟨13, _, _, _, _, _⟩ = _; rw [wr13, hren r' a' h1 h2]; rfl⟩⟩
theorem kind14 (r a n : Int) (nm : ByteArray) (ar : Int) (h : fo ⟨14, r, a, n, nm, ar⟩ = true) : Kinds ⟨14, r, a, n, nm, ar⟩ := by
  rw [fo14] at h
  simp [sameI] at h
  have hren : ∀ r' a', fits false rOk r' → fits true aOk a' → fo ⟨14, r', a', n, nm, ar⟩ = true := fun r' a' h1 h2 => by
    unfold fits at h1 h2
    simp only at h1 h2
    rw [fo14]
    simp [sameI, *]
  refine Or.inr (Or.inr (Or.inr (Or.inr (Or.inr (Or.inr (Or.inr (Or.inr (Or.inl ?_))))))))
  exact ⟨by unfold fits; simp [*], by unfold fits; simp [*], fun r' a' h1 h2 => ⟨hren r' a' h1 h2, by show rdOf ⟨14, _, _, _, _, _⟩ = _; rw [rd14, hren r' a' h1 h2]; rfl, by show wrOf ⟨14, _, _, _, _, _⟩ = _; rw [wr14, hren r' a' h1 h2]; rfl⟩⟩
theorem kind15 (r a n : Int) (nm : ByteArray) (ar : Int) (h : fo ⟨15, r, a, n, nm, ar⟩ = true) : Kinds ⟨15, r, a, n, nm, ar⟩ := by
  rw [fo15] at h
  simp [sameI] at h
  have hren : ∀ r' a', fits true rOk r' → fits false aOk a' → fo ⟨15, r', a', n, nm, ar⟩ = true := fun r' a' h1 h2 => by
    unfold fits at h1 h2
    simp only at h1 h2
    rw [fo15]
    simp [sameI, *]
  refine Or.inr (Or.inr (Or.inr (Or.inl ?_)))
  exact ⟨by unfold fits; simp [*], by unfold fits; simp [*], fun r' a' h1 h2 => ⟨hren r' a' h1 h2, by show rdOf ⟨15, _, _, _, _, _⟩ = _; rw [rd15, hren r' a' h1 h2]; rfl, by show wrOf ⟨15, _, _, _, _, _⟩ = _; rw [wr15, hren r' a' h1 h2]; rfl⟩⟩
theorem kind16 (r a n : Int) (nm : ByteArray) (ar : Int) (h : fo ⟨16, r, a, n, nm, ar⟩ = true) : Kinds ⟨16, r, a, n, nm, ar⟩ := by
  rw [fo16] at h
  simp [sameI] at h
  have hren : ∀ r' a', fits false rOk r' → fits false aOk a' → fo ⟨16, r', a', n, nm, ar⟩ = true := fun r' a' h1 h2 => by
    unfold fits at h1 h2
    simp only at h1 h2
    rw [fo16]
    simp [sameI, *]
  refine Or.inr (Or.inr (Or.inr (Or.inr (Or.inr (Or.inl ?_)))))
  exact ⟨by unfold fits; simp [*], by unfold fits; simp [*], fun r' a' h1 h2 => ⟨hren r' a' h1 h2, by show rdOf ⟨16, _, _, _, _, _⟩ = _; rw [rd16, hren r' a' h1 h2]; rfl, by show wrOf ⟨16, _, _, _, _, _⟩ = _; rw [wr16, hren r' a' h1 h2]; rfl⟩⟩
theorem kind17 (r a n : Int) (nm : ByteArray) (ar : Int) (h : fo ⟨17, r, a, n, nm, ar⟩ = true) : Kinds ⟨17, r, a, n, nm, ar⟩ := by
  rw [fo17] at h
  simp [sameI] at h
  have hren : ∀ r' a', fits false rOk r' → fits false aOk a' → fo ⟨17, r', a', n, nm, ar⟩ = true := fun r' a' h1 h2 => by
    unfold fits at h1 h2
    simp only at h1 h2
    rw [fo17]
    simp [sameI, *]
  refine Or.inr (Or.inr (Or.inr (Or.inr (Or.inr (Or.inl ?_)))))
  exact ⟨by unfold fits; simp [*], by unfold fits; simp [*], fun r' a' h1 h2 => ⟨hren r' a' h1 h2, by show rdOf ⟨17, _, _, _, _, _⟩ = _; rw [rd17, hren r' a' h1 h2]; rfl, by show wrOf ⟨17, _, _, _, _, _⟩ = _; rw [wr17, hren r' a' h1 h2]; rfl⟩⟩
theorem kind18 (r a n : Int) (nm : ByteArray) (ar : Int) (h : fo ⟨18, r, a, n, nm, ar⟩ = true) : Kinds ⟨18, r, a, n, nm, ar⟩ := by
  rw [fo18] at h
  simp [sameI] at h
  have hren : ∀ r' a', fits false rOk r' → fits false aOk a' → fo ⟨18, r', a', n, nm, ar⟩ = true := fun r' a' h1 h2 => by
    unfold fits at h1 h2
    simp only at h1 h2
    rw [fo18]
    simp [sameI, *]
  refine Or.inr (Or.inr (Or.inr (Or.inr (Or.inr (Or.inl ?_)))))
  exact ⟨by unfold fits; simp [*], by unfold fits; simp [*], fun r' a' h1 h2 => ⟨hren r' a' h1 h2, by show rdOf ⟨18, _, _, _, _, _⟩ = _; rw [rd18, hren r' a' h1 h2]; rfl, by show wrOf ⟨18, _, _, _, _, _⟩ = _; rw [wr18, hren r' a' h1 h2]; rfl⟩⟩
theorem kind19 (r a n : Int) (nm : ByteArray) (ar : Int) (h : fo ⟨19, r, a, n, nm, ar⟩ = true) : Kinds ⟨19, r, a, n, nm, ar⟩ := by
  rw [fo19] at h
  simp [sameI] at h
  have hren : ∀ r' a', fits false rOk r' → fits false aOk a' → fo ⟨19, r', a', n, nm, ar⟩ = true := fun r' a' h1 h2 => by
    unfold fits at h1 h2
    simp only at h1 h2
    rw [fo19]
    simp [sameI, *]
  refine Or.inr (Or.inr (Or.inr (Or.inr (Or.inr (Or.inr (Or.inr (Or.inr (Or.inr (?_)))))))))
  refine ⟨⟨by unfold fits; simp [*], by unfold fits; simp [*], fun r' a' h1 h2 => ⟨hren r' a' h1 h2, by show rdOf ⟨19, _, _, _, _, _⟩ = _; rw [rd19, hren r' a' h1 h2]; rfl, by show wrOf ⟨19, _, _, _, _, _⟩ = _; rw [wr19, hren r' a' h1 h2]; rfl⟩⟩, .inl rfl, ?_⟩
  have hp := h.1
  unfold pdOk at hp
  split at hp
  · simp at hp; exact ⟨hp.2.1, by show ar ≤ 4096; omega⟩
  · simp at hp; exact ⟨hp.2.2.2.1, hp.2.2.2.2⟩
theorem kind20 (r a n : Int) (nm : ByteArray) (ar : Int) (h : fo ⟨20, r, a, n, nm, ar⟩ = true) : Kinds ⟨20, r, a, n, nm, ar⟩ := by
  rw [fo20] at h
  simp [sameI] at h
  have hren : ∀ r' a', fits false rOk r' → fits false aOk a' → fo ⟨20, r', a', n, nm, ar⟩ = true := fun r' a' h1 h2 => by
    unfold fits at h1 h2
    simp only at h1 h2
    rw [fo20]
    simp [sameI, *]
  refine Or.inr (Or.inr (Or.inr (Or.inr (Or.inr (Or.inr (Or.inr (Or.inr (Or.inr (?_)))))))))
  refine ⟨⟨by unfold fits; simp [*], by unfold fits; simp [*], fun r' a' h1 h2 => ⟨hren r' a' h1 h2, by show rdOf ⟨20, _, _, _, _, _⟩ = _; rw [rd20, hren r' a' h1 h2]; rfl, by show wrOf ⟨20, _, _, _, _, _⟩ = _; rw [wr20, hren r' a' h1 h2]; rfl⟩⟩, .inr rfl, ?_⟩
  have hp := h.1
  unfold pdOk at hp
  split at hp
  · simp at hp; exact ⟨hp.2.1, by show ar ≤ 4096; omega⟩
  · simp at hp; exact ⟨hp.2.2.2.1, hp.2.2.2.2⟩
theorem kind21 (r a n : Int) (nm : ByteArray) (ar : Int) (h : fo ⟨21, r, a, n, nm, ar⟩ = true) : Kinds ⟨21, r, a, n, nm, ar⟩ := by
  rw [fo21] at h
  simp [sameI] at h
  have hren : ∀ r' a', fits false rOk r' → fits false aOk a' → fo ⟨21, r', a', n, nm, ar⟩ = true := fun r' a' h1 h2 => by
    unfold fits at h1 h2
    simp only at h1 h2
    rw [fo21]
    simp [sameI, *]
  refine Or.inr (Or.inr (Or.inr (Or.inr (Or.inr (Or.inl ?_)))))
  exact ⟨by unfold fits; simp [*], by unfold fits; simp [*], fun r' a' h1 h2 => ⟨hren r' a' h1 h2, by show rdOf ⟨21, _, _, _, _, _⟩ = _; rw [rd21, hren r' a' h1 h2]; rfl, by show wrOf ⟨21, _, _, _, _, _⟩ = _; rw [wr21, hren r' a' h1 h2]; rfl⟩⟩
theorem kind22 (r a n : Int) (nm : ByteArray) (ar : Int) (h : fo ⟨22, r, a, n, nm, ar⟩ = true) : Kinds ⟨22, r, a, n, nm, ar⟩ := by
  rw [fo22] at h
  simp [sameI] at h
  have hren : ∀ r' a', fits true rOk r' → fits false aOk a' → fo ⟨22, r', a', n, nm, ar⟩ = true := fun r' a' h1 h2 => by
    unfold fits at h1 h2
    simp only at h1 h2
    rw [fo22]
    simp [sameI, *]
  refine Or.inr (Or.inr (Or.inr (Or.inl ?_)))
  exact ⟨by unfold fits; simp [*], by unfold fits; simp [*], fun r' a' h1 h2 => ⟨hren r' a' h1 h2, by show rdOf ⟨22, _, _, _, _, _⟩ = _; rw [rd22, hren r' a' h1 h2]; rfl, by show wrOf ⟨22, _, _, _, _, _⟩ = _; rw [wr22, hren r' a' h1 h2]; rfl⟩⟩
theorem kind23 (r a n : Int) (nm : ByteArray) (ar : Int) (h : fo ⟨23, r, a, n, nm, ar⟩ = true) : Kinds ⟨23, r, a, n, nm, ar⟩ := by
  rw [fo23] at h
  simp [sameI] at h
  have hren : ∀ r' a', fits true rOk r' → fits false aOk a' → fo ⟨23, r', a', n, nm, ar⟩ = true := fun r' a' h1 h2 => by
    unfold fits at h1 h2
    simp only at h1 h2
    rw [fo23]
    simp [sameI, *]
  refine Or.inr (Or.inr (Or.inr (Or.inl ?_)))
  exact ⟨by unfold fits; simp [*], by unfold fits; simp [*], fun r' a' h1 h2 => ⟨hren r' a' h1 h2, by show rdOf ⟨23, _, _, _, _, _⟩ = _; rw [rd23, hren r' a' h1 h2]; rfl, by show wrOf ⟨23, _, _, _, _, _⟩ = _; rw [wr23, hren r' a' h1 h2]; rfl⟩⟩
theorem kind24 (r a n : Int) (nm : ByteArray) (ar : Int) (h : fo ⟨24, r, a, n, nm, ar⟩ = true) : Kinds ⟨24, r, a, n, nm, ar⟩ := by
  rw [fo24] at h
  simp [sameI] at h
  have hren : ∀ r' a', fits true rOk r' → fits false aOk a' → fo ⟨24, r', a', n, nm, ar⟩ = true := fun r' a' h1 h2 => by
    unfold fits at h1 h2
    simp only at h1 h2
    rw [fo24]
    simp [sameI, *]
  refine Or.inr (Or.inr (Or.inr (Or.inr (Or.inl ?_))))
  exact ⟨by unfold fits; simp [*], by unfold fits; simp [*], fun r' a' h1 h2 => ⟨hren r' a' h1 h2, by show rdOf ⟨24, _, _, _, _, _⟩ = _; rw [rd24, hren r' a' h1 h2]; rfl, by show wrOf ⟨24, _, _, _, _, _⟩ = _; rw [wr24, hren r' a' h1 h2]; rfl⟩⟩
theorem kind25 (r a n : Int) (nm : ByteArray) (ar : Int) (h : fo ⟨25, r, a, n, nm, ar⟩ = true) : Kinds ⟨25, r, a, n, nm, ar⟩ := by
  rw [fo25] at h
  simp [sameI] at h
  have hren : ∀ r' a', fits false rOk r' → fits false aOk a' → fo ⟨25, r', a', n, nm, ar⟩ = true := fun r' a' h1 h2 => by
    unfold fits at h1 h2
    simp only at h1 h2
    rw [fo25]
    simp [sameI, *]
  refine Or.inr (Or.inr (Or.inr (Or.inr (Or.inr (Or.inl ?_)))))
  exact ⟨by unfold fits; simp [*], by unfold fits; simp [*], fun r' a' h1 h2 => ⟨hren r' a' h1 h2, by show rdOf ⟨25, _, _, _, _, _⟩ = _; rw [rd25, hren r' a' h1 h2]; rfl, by show wrOf ⟨25, _, _, _, _, _⟩ = _; rw [wr25, hren r' a' h1 h2]; rfl⟩⟩
theorem kinds {x : In} (h : fo x = true) : Kinds x := by
  obtain ⟨op, r, a, n, nm, ar⟩ := x
  rcases op_cases (fo_op h) with h1 | h1 | h1 | h1 | h1 | h1 | h1 | h1 | h1 | h1 | h1 | h1 | h1 | h1 | h1 | h1 | h1 | h1 | h1 | h1 | h1 | h1 | h1 | h1 | h1
  · have h2 : op = 1 := h1
    subst h2; exact kind1 r a n nm ar h
  · have h2 : op = 2 := h1
    subst h2; exact kind2 r a n nm ar h
  · have h2 : op = 3 := h1
    subst h2; exact kind3 r a n nm ar h
  · have h2 : op = 4 := h1
    subst h2; exact kind4 r a n nm ar h
  · have h2 : op = 5 := h1
    subst h2; exact kind5 r a n nm ar h
  · have h2 : op = 6 := h1
    subst h2; exact kind6 r a n nm ar h
  · have h2 : op = 7 := h1
    subst h2; exact kind7 r a n nm ar h
  · have h2 : op = 8 := h1
    subst h2; exact kind8 r a n nm ar h
  · have h2 : op = 9 := h1
    subst h2; exact kind9 r a n nm ar h
  · have h2 : op = 10 := h1
    subst h2; exact kind10 r a n nm ar h
  · have h2 : op = 11 := h1
    subst h2; exact kind11 r a n nm ar h
  · have h2 : op = 12 := h1
    subst h2; exact kind12 r a n nm ar h
  · have h2 : op = 13 := h1
    subst h2; exact kind13 r a n nm ar h
  · have h2 : op = 14 := h1
    subst h2; exact kind14 r a n nm ar h
  · have h2 : op = 15 := h1
    subst h2; exact kind15 r a n nm ar h
  · have h2 : op = 16 := h1
    subst h2; exact kind16 r a n nm ar h
  · have h2 : op = 17 := h1
    subst h2; exact kind17 r a n nm ar h
  · have h2 : op = 18 := h1
    subst h2; exact kind18 r a n nm ar h
  · have h2 : op = 19 := h1
    subst h2; exact kind19 r a n nm ar h
  · have h2 : op = 20 := h1
    subst h2; exact kind20 r a n nm ar h
  · have h2 : op = 21 := h1
    subst h2; exact kind21 r a n nm ar h
  · have h2 : op = 22 := h1
    subst h2; exact kind22 r a n nm ar h
  · have h2 : op = 23 := h1
    subst h2; exact kind23 r a n nm ar h
  · have h2 : op = 24 := h1
    subst h2; exact kind24 r a n nm ar h
  · have h2 : op = 25 := h1
    subst h2; exact kind25 r a n nm ar h
end
section
open Go.RowKit

/-- a row of integers in memory of the call's own -/
def OwnL (w w' : World) (v : Value) (l : List Int) : Prop := w'.ownsRow w.heap.size 3 1 v l.length (iCs l) ∧ Below w.heap.size w w'
def RetInts (w : World) (l : List Int) (e : Ending) (w' : World) : Prop := ∃ v, e = .returned v ∧ OwnL w w' v l
theorem fo_ar {x : In} (h : fo x = true) : x.ar ≤ 4096 := by
  obtain ⟨op, r, a, n, nm, ar⟩ := x
  have hs : sameI ⟨op, r, a, n, nm, ar⟩ (wantOf ⟨op, r, a, n, nm, ar⟩ (flds op)) = true := by unfold fo at h; simp only [Bool.and_eq_true] at h; exact h.2
  have hk : ∀ c ∈ flds op, fieldOk ⟨op, r, a, n, nm, ar⟩ c = true := by unfold fo at h; simp only [Bool.and_eq_true, List.all_eq_true] at h; exact h.1.2
  by_cases h102 : (102 : UInt8) ∈ flds op
  · have := hk _ h102
    have h2 : (nmOk nm && (decide (1 ≤ ar) && decide (ar ≤ 8))) = true := this
    simp at h2; show ar ≤ 4096; omega
  by_cases h112 : (112 : UInt8) ∈ flds op
  · have h2 : pdOk nm ar n = true := hk _ h112
    unfold pdOk at h2
    split at h2 <;> simp at h2 <;> (show ar ≤ 4096) <;> omega
  have key : ∀ (l : List UInt8) (y : In), (102 : UInt8) ∉ l → (112 : UInt8) ∉ l → (l.foldl (wantStep ⟨op, r, a, n, nm, ar⟩) y).ar = y.ar := by
    intro l
    induction l with
    | nil => intro y _ _; rfl
    | cons c l ih =>
      intro y h1 h2
      rw [List.foldl_cons, ih _ (fun e => h1 (List.mem_cons_of_mem _ e)) (fun e => h2 (List.mem_cons_of_mem _ e))]
      have c1 : c ≠ 102 := fun e => h1 (e ▸ List.mem_cons_self)
      have c2 : c ≠ 112 := fun e => h2 (e ▸ List.mem_cons_self)
      unfold wantStep
      repeat' split
      all_goals first | rfl | contradiction
  have hw := key (flds op) ⟨op, 0, 0, 0, ⟨#[]⟩, 0⟩ h102 h112
  unfold sameI at hs
  simp only [Bool.and_eq_true, beq_iff_eq] at hs
  have := hs.2.2.2.2.2
  unfold wantOf at this
  rw [hw] at this
  show ar ≤ 4096
  simp at this; omega
theorem reg_len (x : In) (h : x.ar ≤ 4096) : ∀ (s : List UInt8) (l : List Int), (s.foldl (regStep x) l).length ≤ l.length + s.length * 4096
  | [], l => by simp
  | c :: s, l => by
    rw [List.foldl_cons]
    have := reg_len x h s (regStep x l c)
    have h2 : (regStep x l c).length ≤ l.length + 4096 := by
      unfold regStep
      repeat' split
      all_goals simp
      omega
    simp only [List.length_cons]
    omega
/-- where the walk of registers stands -/
def RgAt (w0 wr : World) (b2 it : Nat) (s : ByteArray) (x : In) (k : Nat) (v : Value) (l : List Int) : Prop :=
  BoxI wr b2 x ∧ wr.heap[it]? = some (.stringIter s k) ∧ (wr.ownsRow (it + 1) 3 1 v l.length (iCs l) ∧ it + 1 ≤ wr.heap.size) ∧ Below w0.heap.size w0 wr ∧ (b2 < it ∧ w0.heap.size ≤ b2)
theorem RgAt.next {w0 wr : World} {b2 it : Nat} {s : ByteArray} {x : In} {k j : Nat} {v : Value} {l : List Int} (h : RgAt w0 wr b2 it s x k v l) : RgAt w0 (wr.iterAt it s j) b2 it s x j v l := by
  obtain ⟨h1, h3, ⟨h2, h2'⟩, h4, h5, h6⟩ := h
  have hz : (wr.iterAt it s j).heap.size = wr.heap.size := by simp [World.iterAt]
  refine ⟨(Lib.iterAt_other _ _ _ _ _ (by omega)).trans h1, Lib.iterAt_heap _ _ _ _ _ h3, ⟨own_stay h2 fun g hg => Lib.iterAt_other _ _ _ _ _ (by have := own_lt h2 hg; omega), by omega⟩, ?_, h5, h6⟩
  exact ⟨h4.os, h4.tape, h4.output, by rw [hz]; exact h4.size, fun g hg => (Lib.iterAt_other _ _ _ _ _ (by omega)).trans (h4.block g hg)⟩
theorem RgAt.app {w0 wr w3 : World} {b2 it : Nat} {s : ByteArray} {x : In} {k : Nat} {v v' : Value} {l : List Int} {z : Int} {o : Obj} (h : RgAt w0 wr b2 it s x k v l)
    (ho : w3.ownsRow (it + 1) 3 1 v' (l.length + 1) (iCs l ++ [.int .i64 z])) (hg : (wr.alloc o).grownBy w3 v.ownBlock) : RgAt w0 w3 b2 it s x k v' (l ++ [z]) := by
  obtain ⟨h1, h3, ⟨h2, h2'⟩, h4, h5, h6⟩ := h
  have hlt : it < wr.heap.size := (Array.getElem?_eq_some_iff.1 h3).1
  have hz : (wr.alloc o).heap.size = wr.heap.size + 1 := by simp
  refine ⟨(h1.alloc o).grown hg (fun e => by have := own_lt h2 e; omega), ?_, ⟨?_, ?_⟩, ?_, h5, h6⟩
  · rw [hg.block it (by omega) (fun e => by have := own_lt h2 e.symm; omega), heap_alloc_old _ _ hlt]; exact h3
  · rw [List.length_append, show iCs (l ++ [z]) = iCs l ++ [.int .i64 z] by simp [iCs]]; exact ho
  · have := hg.size; omega
  · exact (h4.alloc (by omega) o).grown hg (by omega) (fun g e => by have := own_lt h2 e; omega)
theorem RgAt.pos {w0 wr : World} {b2 it : Nat} {s : ByteArray} {x : In} {k : Nat} {v : Value} {l : List Int} (h : RgAt w0 wr b2 it s x k v l) : wr.iterPos it = k := by unfold World.iterPos; rw [h.2.1]
theorem RgAt.ints {w0 wr : World} {b2 it : Nat} {s : ByteArray} {x : In} {k : Nat} {v : Value} {l : List Int} (h : RgAt w0 wr b2 it s x k v l) (hn : l.length ≤ 1000000) :
    ∃ A c, v = .slice A l.length c ∧ IntsAt wr wr.heap.size A l.length l := by
  obtain ⟨A, c, rfl, _⟩ := own_form h.2.2.1.1
  exact ⟨A, c, rfl, own_ints h.2.2.1.1 hn⟩

set_option maxRecDepth 100000 in
set_option maxHeartbeats 1000000 in
theorem registers_any (x : In) (s : ByteArray) (w : World) (hs : ∀ c ∈ s.data.toList, c = 114 ∨ c = 97 ∨ c = 112) (hs2 : s.size ≤ 2) :
    Calls Tryz.prog 53 #[x.v, .string s] w (RetInts w (regsOf x s.data.toList)) := by
  obtain ⟨i3, hi, hz0, hz1, hz2⟩ := info_parts info3
  have HI := Lib.hid hz1
  go_enter Tryz.func53, Tryz.ntmps53
  go_wp2_with fail
  refine (formed_any _ _).mono ?_
  rintro e w1 ⟨rfl, hb⟩
  have hx1 := (BoxI.new w x).next hb
  have HB := Lib.hid (bStart hb)
  have hz : w.heap.size < w1.heap.size := by have := hb.size; simp at this; omega
  clear hb
  have HX := Lib.hid hx1
  cases hf : fo x with
  | false =>
    have HF := Lib.hid hf
    clear hf hx1
    go_wp2_with fail
    go_ret
    exact ⟨_, rfl, by
      unfold regsOf; rw [HF.out]
      exact ⟨⟨rfl, .inl ⟨rfl, rfl⟩⟩, HB.out⟩⟩
  | true =>
    have HF := Lib.hid hf
    have har := Lib.hid (fo_ar hf)
    have HZ := Lib.hid hz
    clear hf hx1
    go_wp2_with fail
    clear hz
    go_loopw [4] (fun v wr => ∃ k : Nat, k ≤ s.size ∧ Hid (RgAt w wr w.heap.size w1.heap.size s x k v ((s.data.toList.take k).foldl (regStep x) []))) (fun _ wr => s.size - wr.iterPos w1.heap.size)
    case atStart =>
      have hz := HZ.out
      exact ⟨0, Nat.zero_le _, Lib.hid ⟨HX.out.alloc _, World.iter_heap _ _ _, ⟨⟨rfl, .inl ⟨rfl, rfl⟩⟩, by simp [World.iter]⟩, HB.out.alloc (by omega) _, hz, Nat.le_refl _⟩⟩
    case round =>
      obtain ⟨k, hk, HR⟩ := hrel
      generalize hit : w1.heap.size = it at HR ⊢
      have HIT := Lib.hid hit
      clear hit
      generalize hl : (s.data.toList.take k).foldl (regStep x) [] = l at HR
      have HL := Lib.hid hl
      have hll : l.length ≤ 8192 := by
        have h1 := reg_len x har.out (s.data.toList.take k) []
        have h2 : (s.data.toList.take k).length ≤ 2 := by simp; omega
        rw [hl] at h1
        simp only [List.length_nil] at h1
        omega
      clear hl
      by_cases hlt : k < s.size
      · have hget : s.data.toList[k]? = some (s[k]'hlt) := by simp [hlt]; rfl
        have hmem := hs _ (List.mem_of_getElem? hget)
        generalize hc : s[k]'hlt = c at hget hmem
        have HC := Lib.hid hc
        have HG := Lib.hid hget
        clear hc hget
        have hsn : ∀ (c' : UInt8) m, c = c' → regStep x l c' = m → (s.data.toList.take (k + 1)).foldl (regStep x) [] = m := fun c' m e1 e2 => by
          rw [List.take_add_one, HG.out, e1]; simp [HL.out, e2]
        have HSN := Lib.hid hsn
        clear hsn
        obtain ⟨w2, hw2⟩ : ∃ w2, w2 = wr.iterAt it s (k + 1) := ⟨_, rfl⟩
        have HN : Hid (RgAt w w2 w.heap.size it s x (k + 1) u4 l) := by rw [hw2]; exact Lib.hid HR.out.next
        have HW := Lib.hid hw2
        clear hw2
        obtain ⟨p0, p1, p2, p3, p4, p5⟩ := BoxI.cells HN.out.1
        rcases hmem with rfl | rfl | rfl
        · have hn := fun ty => next_lit hlt HR.out.2.1 HC.out (by decide) 114 rfl ty
          rw [← HW.out] at hn
          go_wp2_with (at_builtin; refine wpList_append_own_at _ rfl (.tmp 19) (.tmp 22) 46 rfl (it + 1) 3 i3 (.int .i64 0) 1 8 Tryz.underlying46 hi hz0 HI.out hz2 rfl (by decide) _ _ _ rfl (HN.out.2.2.1.1.alloc _) ⟨w2.heap.size, 0, none⟩ 1 1 [.int .i64 x.r] rfl rfl ?a1 ?a2 ?a3 ?a4 ?a5 ?_)
          case a1 => exact cell_one_new _ _ _
          case a2 => simp [Value.oneCell']
          case a3 => unfold maxLen; (try simp only [List.length_append, List.length_map, List.length_range]); omega
          case a4 => (try simp only [List.length_append, List.length_map, List.length_range]); omega
          case a5 => have := HN.out.2.2.1.2; simp; omega
          intro v' w3 hown' hg _ _
          have HA : Hid (RgAt w w3 w.heap.size it s x (k + 1) v' (l ++ [x.r])) := Lib.hid (HN.out.app hown' hg)
          clear hown' hg
          go_wp2_with fail
          exact ⟨⟨k + 1, by omega, by rw [HSN.out 114 _ rfl rfl]; exact HA⟩, by have e1 := HA.out.pos; have e2 := HR.out.pos; omega⟩
        · have hn := fun ty => next_lit hlt HR.out.2.1 HC.out (by decide) 97 rfl ty
          rw [← HW.out] at hn
          obtain ⟨A, cA, rfl, hI⟩ := HN.out.ints (by omega)
          have HII := Lib.hid hI
          clear hI
          go_wp2_with fail
          refine (contains_any _ _ _ _ _ _ HII.out).mono ?_
          rintro e w' ⟨rfl, rfl⟩
          cases hcon : l.contains x.a with
          | true =>
            have HCN := Lib.hid hcon
            clear hcon
            go_wp2_with fail
            exact ⟨⟨k + 1, by omega, by rw [HSN.out 97 l rfl (by show (if l.contains x.a then l else l ++ [x.a]) = l; rw [HCN.out]; rfl)]; exact HN⟩, by have e1 := HN.out.pos; have e2 := HR.out.pos; omega⟩
          | false =>
            have HCN := Lib.hid hcon
            clear hcon
            go_wp2_with (at_builtin; refine wpList_append_own_at _ rfl (.tmp 31) (.tmp 34) 46 rfl (it + 1) 3 i3 (.int .i64 0) 1 8 Tryz.underlying46 hi hz0 HI.out hz2 rfl (by decide) _ _ _ rfl (HN.out.2.2.1.1.alloc _) ⟨w2.heap.size, 0, none⟩ 1 1 [.int .i64 x.a] rfl rfl ?b1 ?b2 ?b3 ?b4 ?b5 ?_)
            case b1 => exact cell_one_new _ _ _
            case b2 => simp [Value.oneCell']
            case b3 => unfold maxLen; (try simp only [List.length_append, List.length_map, List.length_range]); omega
            case b4 => (try simp only [List.length_append, List.length_map, List.length_range]); omega
            case b5 => have := HN.out.2.2.1.2; simp; omega
            intro v' w3 hown' hg _ _
            have HA : Hid (RgAt w w3 w.heap.size it s x (k + 1) v' (l ++ [x.a])) := Lib.hid (HN.out.app hown' hg)
            clear hown' hg
            go_wp2_with fail
            exact ⟨⟨k + 1, by omega, by rw [HSN.out 97 (l ++ [x.a]) rfl (by show (if l.contains x.a then l else l ++ [x.a]) = _; rw [HCN.out]; rfl)]; exact HA⟩, by have e1 := HA.out.pos; have e2 := HR.out.pos; omega⟩
        · have hn := fun ty => next_lit hlt HR.out.2.1 HC.out (by decide) 112 rfl ty
          rw [← HW.out] at hn
          have HW2 := Lib.hid (show (0 : Int) ≤ 0 by decide)
          go_wp2_with fail
          go_loopw [4, 40] (fun v i wj => ∃ j : Nat, i = .int .i64 j ∧ (j : Int) ≤ max 0 x.ar ∧ Hid (RgAt w wj w.heap.size it s x (k + 1) v (l ++ (List.range j).map fun i : Nat => (i : Int) + 1))) (fun _ i _ => x.ar.toNat - (intOf i).toNat)
          case atStart => exact ⟨0, rfl, by omega, by simpa using HN⟩
          case round =>
            obtain ⟨j, rfl, hj, HN⟩ := hrel
            have har' := har.out
            by_cases hjl : (j : Int) < x.ar
            · go_wp2_with (at_builtin; refine wpList_append_own_at _ rfl (.tmp 43) (.tmp 46) 46 rfl (it + 1) 3 i3 (.int .i64 0) 1 8 Tryz.underlying46 hi hz0 HI.out hz2 rfl (by decide) _ _ _ rfl (HN.out.2.2.1.1.alloc _) ⟨wr.heap.size, 0, none⟩ 1 1 [.int .i64 ((j : Int) + 1)] rfl rfl ?d1 ?d2 ?d3 ?d4 ?d5 ?_)
              case d1 => exact cell_one_new _ _ _
              case d2 => simp [Value.oneCell']
              case d3 => unfold maxLen; (try simp only [List.length_append, List.length_map, List.length_range]); omega
              case d4 => (try simp only [List.length_append, List.length_map, List.length_range]); omega
              case d5 => have := HN.out.2.2.1.2; simp; omega
              intro v' w3 hown' hg _ _
              have HA : Hid (RgAt w w3 w.heap.size it s x (k + 1) v' (l ++ (List.range (j + 1)).map fun i : Nat => (i : Int) + 1)) := Lib.hid (by
                have := HN.out.app (z := (j : Int) + 1) (by rw [List.length_append, List.length_map, List.length_range]; exact hown') hg
                rw [List.append_assoc] at this
                rw [List.range_succ, List.map_append]; exact this)
              clear hown' hg
              go_wp2_with fail
              exact ⟨⟨j + 1, by go_num, by omega, HA⟩, by simp [intOf]; omega⟩
            · have hjt : j = x.ar.toNat := by omega
              go_wp2_with fail
              exact ⟨⟨k + 1, by omega, by rw [HSN.out 112 (l ++ (List.range j).map fun i : Nat => (i : Int) + 1) rfl (by rw [hjt]; rfl)]; exact HN⟩, by have e1 := HN.out.pos; have e2 := HR.out.pos; omega⟩
      · have hn := fun ty => Lib.run_next_end_at (P := Tryz.prog) wr it s k ty HR.out.2.1 hlt
        have HE : Hid (regsOf x s.data.toList = l) := Lib.hid (by
          unfold regsOf; rw [HF.out, ← HL.out, List.take_of_length_le (by simp; omega)]; rfl)
        go_wp2_with fail
        go_ret
        refine ⟨_, rfl, ?_⟩
        rw [HE.out]
        exact ⟨own_base HR.out.2.2.1.1 (by have := HR.out.2.2.2.2; omega), HR.out.2.2.2.1⟩
end
section
open Go.RowKit

theorem sh_rw (op : Int) : ((∀ c ∈ (sh op).2.2.1.data.toList, c = 114 ∨ c = 97 ∨ c = 112) ∧ (sh op).2.2.1.size ≤ 2) ∧ ((∀ c ∈ (sh op).2.2.2.data.toList, c = 114 ∨ c = 97 ∨ c = 112) ∧ (sh op).2.2.2.size ≤ 2) := by
  cases h : okOp op with
  | false => rw [sh_out h]; decide
  | true => rcases op_cases h with rfl | rfl | rfl | rfl | rfl | rfl | rfl | rfl | rfl | rfl | rfl | rfl | rfl | rfl | rfl | rfl | rfl | rfl | rfl | rfl | rfl | rfl | rfl | rfl | rfl <;> decide
theorem OwnL.later {w w1 w2 : World} {v : Value} {l : List Int} (hb : Below w.heap.size w w1) (h : OwnL w1 w2 v l) : OwnL w w2 v l := ⟨own_base h.1 hb.size, bNext hb h.2⟩
set_option maxHeartbeats 400000 in
theorem reads_any (x : In) (w : World) : Calls Tryz.prog 20 #[x.v] w (RetInts w (rdOf x)) := by
  have HS := Lib.hid (sh_rw x.op).1
  go_enter Tryz.func20, Tryz.ntmps20
  go_wp2_with fail
  refine (shapeOf_any _ _).mono ?_
  rintro e w1 ⟨rfl, hb⟩
  have hx1 := (BoxI.new w x).next hb
  have HB := Lib.hid (bStart hb)
  have hz : w.heap.size < w1.heap.size := by have := hb.size; simp at this; omega
  clear hb
  obtain ⟨q0, q1, q2, q3, q4, q5⟩ := BoxI.cells hx1
  clear hx1
  go_wp2_with fail
  refine (registers_any _ _ _ HS.out.1 HS.out.2).mono ?_
  rintro e w2 ⟨v, rfl, ho⟩
  have HO := Lib.hid (ho.later (HB.out.alloc (Nat.le_of_lt hz) _))
  clear ho
  go_wp2_with fail
  go_ret
  exact ⟨_, rfl, HO.out⟩
set_option maxHeartbeats 400000 in
theorem writes_any (x : In) (w : World) : Calls Tryz.prog 23 #[x.v] w (RetInts w (wrOf x)) := by
  have HS := Lib.hid (sh_rw x.op).2
  go_enter Tryz.func23, Tryz.ntmps23
  go_wp2_with fail
  refine (shapeOf_any _ _).mono ?_
  rintro e w1 ⟨rfl, hb⟩
  have hx1 := (BoxI.new w x).next hb
  have HB := Lib.hid (bStart hb)
  have hz : w.heap.size < w1.heap.size := by have := hb.size; simp at this; omega
  clear hb
  obtain ⟨q0, q1, q2, q3, q4, q5⟩ := BoxI.cells hx1
  clear hx1
  go_wp2_with fail
  refine (registers_any _ _ _ HS.out.1 HS.out.2).mono ?_
  rintro e w2 ⟨v, rfl, ho⟩
  have HO := Lib.hid (ho.later (HB.out.alloc (Nat.le_of_lt hz) _))
  clear ho
  go_wp2_with fail
  go_ret
  exact ⟨_, rfl, HO.out⟩
end
section
open Go.RowKit

/-- where the walk of the reference's registers stands -/
def RrAt (w0 wr : World) (b1 b2 : Nat) (x : In) (v : Value) (l : List Int) : Prop :=
  BoxI wr b1 x ∧ (wr.ownsRow b2 3 1 v l.length (iCs l) ∧ b2 ≤ wr.heap.size) ∧ Below w0.heap.size w0 wr ∧ (b1 < b2 ∧ w0.heap.size ≤ b1)
theorem RrAt.app {w0 wr w3 : World} {b1 b2 : Nat} {x : In} {v v' : Value} {l : List Int} {z : Int} {o : Obj} (h : RrAt w0 wr b1 b2 x v l)
    (ho : w3.ownsRow b2 3 1 v' (l.length + 1) (iCs l ++ [.int .i64 z])) (hg : (wr.alloc o).grownBy w3 v.ownBlock) : RrAt w0 w3 b1 b2 x v' (l ++ [z]) := by
  obtain ⟨h1, ⟨h2, h2'⟩, h4, h5, h6⟩ := h
  have hz : (wr.alloc o).heap.size = wr.heap.size + 1 := by simp
  refine ⟨(h1.alloc o).grown hg (fun e => by have := own_lt h2 e; omega), ⟨?_, ?_⟩, ?_, h5, h6⟩
  · rw [List.length_append, show iCs (l ++ [z]) = iCs l ++ [.int .i64 z] by simp [iCs]]; exact ho
  · have := hg.size; omega
  · exact (h4.alloc (by omega) o).grown hg (by omega) (fun g e => by have := own_lt h2 e; omega)
theorem RrAt.drewN {w0 wr : World} {b1 b2 : Nat} {x : In} {v : Value} {l : List Int} (h : RrAt w0 wr b1 b2 x v l) (n : Nat) : RrAt w0 (wr.drewN n) b1 b2 x v l :=
  ⟨h.1, h.2.1, bDrewN h.2.2.1 n, h.2.2.2⟩
theorem RrAt.ints {w0 wr : World} {b1 b2 : Nat} {x : In} {v : Value} {l : List Int} (h : RrAt w0 wr b1 b2 x v l) (hn : l.length ≤ 1000000) :
    ∃ A c, v = .slice A l.length c ∧ IntsAt wr wr.heap.size A l.length l := by
  obtain ⟨A, c, rfl, _⟩ := own_form h.2.1.1
  exact ⟨A, c, rfl, own_ints h.2.1.1 hn⟩

set_option maxRecDepth 100000 in
set_option maxHeartbeats 1000000 in
theorem Registers_any (x : In) (s : ByteArray) (w : World) (hs : ∀ c ∈ s.data.toList, c = 114 ∨ c = 97 ∨ c = 112) (hs2 : s.size ≤ 2)
    (hs3 : ∀ k, s.data.toList[k]? = some 97 → ((s.data.toList.take k).foldl (regStep x) []).length ≤ 1) :
    Calls Tryz.prog 55 #[x.v, .string s] w (RetInts w (regsOf x s.data.toList)) := by
  obtain ⟨i3, hi, hz0, hz1, hz2⟩ := info_parts info3
  have HI := Lib.hid hz1
  have HS3 := Lib.hid hs3
  clear hs3 hz1
  go_enter Tryz.func55, Tryz.ntmps55
  go_wp2_with fail
  refine (Formed_any _ _).mono ?_
  rintro e w1 ⟨rfl, hb⟩
  have hx1 := (BoxI.new w x).next hb
  have HB := Lib.hid (bStart hb)
  have hz : w.heap.size < w1.heap.size := by have := hb.size; simp at this; omega
  clear hb
  have HX := Lib.hid hx1
  cases hf : fo x with
  | false =>
    have HF := Lib.hid hf
    clear hf hx1
    go_wp2_with fail
    go_ret
    exact ⟨_, rfl, by
      unfold regsOf; rw [HF.out]
      exact ⟨⟨rfl, .inl ⟨rfl, rfl⟩⟩, HB.out⟩⟩
  | true =>
    have HF := Lib.hid hf
    have har := Lib.hid (fo_ar hf)
    have HZ := Lib.hid hz
    clear hf hx1
    go_wp2_with fail
    clear hz
    go_loopw [5, 6] (fun v i wr => ∃ k : Nat, i = .int .i64 k ∧ k ≤ s.size ∧ Hid (RrAt w wr w.heap.size w1.heap.size x v ((s.data.toList.take k).foldl (regStep x) []))) (fun _ i _ => s.size - (intOf i).toNat)
    case atStart =>
      have hz := HZ.out
      exact ⟨0, rfl, Nat.zero_le _, Lib.hid ⟨HX.out, ⟨⟨rfl, .inl ⟨rfl, rfl⟩⟩, Nat.le_refl _⟩, HB.out, hz, Nat.le_refl _⟩⟩
    case round =>
      obtain ⟨k, rfl, hk, HN⟩ := hrel
      generalize hit : w1.heap.size = b2 at HN ⊢
      have HIT := Lib.hid hit
      clear hit
      have H3 := Lib.hid (HS3.out k)
      generalize hl : (s.data.toList.take k).foldl (regStep x) [] = l at HN H3
      have HL := Lib.hid hl
      have hll : l.length ≤ 8192 := by
        have h1 := reg_len x har.out (s.data.toList.take k) []
        have h2 : (s.data.toList.take k).length ≤ 2 := by simp; omega
        rw [hl] at h1
        simp only [List.length_nil] at h1
        omega
      clear hl
      obtain ⟨p0, p1, p2, p3, p4, p5⟩ := BoxI.cells HN.out.1
      by_cases hlt : k < s.size
      · have hget : s.data.toList[k]? = some (s[k]'hlt) := by simp [hlt]; rfl
        have hmem := hs _ (List.mem_of_getElem? hget)
        have hsn : ∀ (c' : UInt8) m, s[k]'hlt = c' → regStep x l c' = m → (s.data.toList.take (k + 1)).foldl (regStep x) [] = m := fun c' m e1 e2 => by
          rw [List.take_add_one, hget, e1]; simp [HL.out, e2]
        have HSN := Lib.hid hsn
        have HG := Lib.hid hget
        clear hsn hget
        rcases hmem with hc | hc | hc
        · have hn : (s[k]'hlt).toNat = 114 := by rw [hc]; rfl
          have HC := Lib.hid hc
          clear hc
          go_wp2_with (at_builtin; refine wpList_append_own_at _ rfl (.tmp 22) (.tmp 25) 46 rfl b2 3 i3 (.int .i64 0) 1 8 Tryz.underlying46 hi hz0 HI.out hz2 rfl (by decide) _ _ _ rfl (HN.out.2.1.1.alloc _) ⟨wr.heap.size, 0, none⟩ 1 1 [.int .i64 x.r] rfl rfl ?a1 ?a2 ?a3 ?a4 ?a5 ?_)
          case a1 => exact cell_one_new _ _ _
          case a2 => simp [Value.oneCell']
          case a3 => unfold maxLen; first | omega | (simp; done) | (simp; omega)
          case a4 => first | omega | (simp; done) | (simp; omega)
          case a5 => have := HN.out.2.1.2; simp at this ⊢; omega
          intro v' w3 hown' hg _ _
          have HA : Hid (RrAt w w3 w.heap.size b2 x v' (l ++ [x.r])) := Lib.hid (HN.out.app hown' hg)
          clear hown' hg
          go_wp2_with fail
          exact ⟨⟨k + 1, by go_num, by omega, by rw [HSN.out 114 _ HC.out rfl]; exact HA⟩, by simp [intOf]; omega⟩
        · have hn : (s[k]'hlt).toNat = 97 := by rw [hc]; rfl
          have hl1 := H3.out (by rw [HG.out, hc])
          have HC := Lib.hid hc
          clear hc
          obtain ⟨A, cA, rfl, hI⟩ := HN.out.ints (by omega)
          match l, hl1, HN, HL, HSN, hI with
          | [], _, HN, HL, HSN, hI =>
            clear hI
            simp only [List.length_nil] at *
            go_wp2_with fail
            go_quiet (fail)
            rename_i nq
            replace HN := Lib.hid (HN.out.drewN nq)
            go_wp2_with (at_builtin; refine wpList_append_own_at _ rfl (.tmp 45) (.tmp 48) 46 rfl b2 3 i3 (.int .i64 0) 1 8 Tryz.underlying46 hi hz0 HI.out hz2 rfl (by decide) _ _ _ rfl (HN.out.2.1.1.alloc _) _ 1 1 [.int .i64 x.a] rfl rfl ?b1 ?b2 ?b3 ?b4 ?b5 ?_)
            case b1 => exact cell_one_new _ _ _
            case b2 => simp [Value.oneCell']
            case b3 => unfold maxLen; first | omega | (simp; done) | (simp; omega)
            case b4 => first | omega | (simp; done) | (simp; omega)
            case b5 => have := HN.out.2.1.2; simp at this ⊢; omega
            intro v' w3 hown' hg _ _
            have HA : Hid (RrAt w w3 w.heap.size b2 x v' ([] ++ [x.a])) := Lib.hid (HN.out.app hown' hg)
            clear hown' hg
            go_wp2_with fail
            exact ⟨⟨k + 1, by go_num, by omega, by rw [HSN.out 97 [x.a] HC.out rfl]; exact HA⟩, by simp [intOf]; omega⟩
          | [z], _, HN, HL, HSN, hI =>
            obtain ⟨b, off, z', rfl, hb, hx, hc⟩ := hI.at (i := 0) (by simp)
            have hzz : z = z' := by simpa using hx
            subst hzz
            clear hx hI
            simp only [List.length_cons, List.length_nil] at *
            rw [Nat.add_zero] at hc
            by_cases hza : z = x.a
            · have HZA := Lib.hid hza
              have hz1' : (z != x.a) = false := by simp [hza]
              clear hza
              go_wp2_with fail
              go_quiet (fail)
              rename_i nq
              replace HN := Lib.hid (HN.out.drewN nq)
              go_wp2_with fail
              exact ⟨⟨k + 1, by go_num, by omega, by rw [HSN.out 97 [z] HC.out (by show (if [z].contains x.a then [z] else [z] ++ [x.a]) = _; rw [HZA.out]; simp)]; exact HN⟩, by simp [intOf]; omega⟩
            · have HZA := Lib.hid hza
              have hz1' : (z != x.a) = true := by simp [hza]
              clear hza
              go_wp2_with fail
              go_quiet (fail)
              rename_i nq
              replace HN := Lib.hid (HN.out.drewN nq)
              go_wp2_with (at_builtin; refine wpList_append_own_at _ rfl (.tmp 45) (.tmp 48) 46 rfl b2 3 i3 (.int .i64 0) 1 8 Tryz.underlying46 hi hz0 HI.out hz2 rfl (by decide) _ _ _ rfl (HN.out.2.1.1.alloc _) _ 1 1 [.int .i64 x.a] rfl rfl ?c1 ?c2 ?c3 ?c4 ?c5 ?_)
              case c1 => exact cell_one_new _ _ _
              case c2 => simp [Value.oneCell']
              case c3 => unfold maxLen; first | omega | (simp; done) | (simp; omega)
              case c4 => first | omega | (simp; done) | (simp; omega)
              case c5 => have := HN.out.2.1.2; simp at this ⊢; omega
              intro v' w3 hown' hg _ _
              have HA : Hid (RrAt w w3 w.heap.size b2 x v' ([z] ++ [x.a])) := Lib.hid (HN.out.app hown' hg)
              clear hown' hg
              go_wp2_with fail
              exact ⟨⟨k + 1, by go_num, by omega, by rw [HSN.out 97 [z, x.a] HC.out (by show (if [z].contains x.a then [z] else [z] ++ [x.a]) = _; rw [if_neg (by simpa using fun e => HZA.out e.symm)]; rfl)]; exact HA⟩, by simp [intOf]; omega⟩
        · have hn : (s[k]'hlt).toNat = 112 := by rw [hc]; rfl
          have HC := Lib.hid hc
          clear hc
          go_wp2_with fail
          go_quiet (fail)
          rename_i nq
          replace HN := Lib.hid (HN.out.drewN nq)
          go_wp2_with fail
          go_loopw [5, 7] (fun v i wj => ∃ j : Nat, i = .int .i64 (j + 1 : Nat) ∧ (j : Int) ≤ max 0 x.ar ∧ Hid (RrAt w wj w.heap.size b2 x v (l ++ (List.range j).map fun i : Nat => (i : Int) + 1))) (fun _ i _ => x.ar.toNat + 1 - (intOf i).toNat)
          case atStart => exact ⟨0, rfl, by omega, by simpa using HN⟩
          case round =>
            obtain ⟨j, rfl, hj, HJ⟩ := hrel
            have har' := har.out
            clear p0 p1 p2 p3 p4 p5
            obtain ⟨p0, p1, p2, p3, p4, p5⟩ := BoxI.cells HJ.out.1
            by_cases hjl : (j : Int) < x.ar
            · go_wp2_with (at_builtin; refine wpList_append_own_at _ rfl (.tmp 61) (.tmp 63) 46 rfl b2 3 i3 (.int .i64 0) 1 8 Tryz.underlying46 hi hz0 HI.out hz2 rfl (by decide) _ _ _ rfl (HJ.out.2.1.1.alloc _) ⟨wr.heap.size, 0, none⟩ 1 1 [.int .i64 ((j + 1 : Nat) : Int)] rfl rfl ?d1 ?d2 ?d3 ?d4 ?d5 ?_)
              case d1 => exact cell_one_new _ _ _
              case d2 => simp [Value.oneCell']
              case d3 => unfold maxLen; first | omega | (simp; done) | (simp; omega)
              case d4 => first | omega | (simp; done) | (simp; omega)
              case d5 => have := HJ.out.2.1.2; simp at this ⊢; omega
              intro v' w3 hown' hg _ _
              have HA : Hid (RrAt w w3 w.heap.size b2 x v' (l ++ (List.range (j + 1)).map fun i : Nat => (i : Int) + 1)) := Lib.hid (by
                have := HJ.out.app (z := (j : Int) + 1) (by rw [List.length_append, List.length_map, List.length_range]; exact hown') hg
                rw [List.append_assoc] at this
                rw [List.range_succ, List.map_append]; exact this)
              clear hown' hg
              go_wp2_with fail
              exact ⟨⟨j + 1, by go_num, by omega, HA⟩, by simp [intOf]; omega⟩
            · have hjt : j = x.ar.toNat := by omega
              go_wp2_with fail
              exact ⟨⟨k + 1, by go_num, by omega, by rw [HSN.out 112 (l ++ (List.range j).map fun i : Nat => (i : Int) + 1) HC.out (by rw [hjt]; rfl)]; exact HJ⟩, by simp [intOf]; omega⟩
      · have HE : Hid (regsOf x s.data.toList = l) := Lib.hid (by
          unfold regsOf; rw [HF.out, ← HL.out, List.take_of_length_le (by simp; omega)]; rfl)
        go_wp2_with fail
        go_ret
        refine ⟨_, rfl, ?_⟩
        rw [HE.out]
        exact ⟨own_base HN.out.2.1.1 (by have := HN.out.2.2.2; omega), HN.out.2.2.1⟩
end
section
open Go.RowKit

theorem sh_strings (op : Int) : (sh op).2.2.1.data.toList ∈ [[], [114], [97], [114, 97], [(112 : UInt8)]] ∧ (sh op).2.2.2.data.toList ∈ [[], [114], [97], [114, 97], [(112 : UInt8)]] := by
  cases h : okOp op with
  | false => rw [sh_out h]; decide
  | true => rcases op_cases h with rfl | rfl | rfl | rfl | rfl | rfl | rfl | rfl | rfl | rfl | rfl | rfl | rfl | rfl | rfl | rfl | rfl | rfl | rfl | rfl | rfl | rfl | rfl | rfl | rfl <;> decide
theorem short97 (x : In) {L : List UInt8} (h : L ∈ [[], [114], [97], [114, 97], [(112 : UInt8)]]) (k : Nat) (hk : L[k]? = some 97) : ((L.take k).foldl (regStep x) []).length ≤ 1 := by
  simp only [List.mem_cons, List.not_mem_nil, or_false] at h
  rcases h with rfl | rfl | rfl | rfl | rfl
  · simp at hk
  · cases k with
    | zero => simp
    | succ k => simp at hk
  · cases k with
    | zero => simp
    | succ k => simp at hk
  · match k with
    | 0 => simp
    | 1 => show ([x.r] : List Int).length ≤ 1; simp
    | k + 2 => simp at hk
  · cases k with
    | zero => simp
    | succ k => simp at hk
set_option maxHeartbeats 400000 in
theorem Reads_any (x : In) (w : World) : Calls Tryz.prog 22 #[x.v] w (RetInts w (rdOf x)) := by
  have HS := Lib.hid (sh_rw x.op).1
  have HS2 := Lib.hid (short97 x (sh_strings x.op).1)
  go_enter Tryz.func22, Tryz.ntmps22
  go_wp2_with fail
  refine (shape_any _ _).mono ?_
  rintro e w1 ⟨rfl, hb⟩
  have hx1 := (BoxI.new w x).next hb
  have HB := Lib.hid (bStart hb)
  have hz : w.heap.size < w1.heap.size := by have := hb.size; simp at this; omega
  clear hb
  obtain ⟨q0, q1, q2, q3, q4, q5⟩ := BoxI.cells hx1
  clear hx1
  go_wp2_with fail
  refine (Registers_any _ _ _ HS.out.1 HS.out.2 HS2.out).mono ?_
  rintro e w2 ⟨v, rfl, ho⟩
  have HO := Lib.hid (ho.later (HB.out.alloc (Nat.le_of_lt hz) _))
  clear ho
  go_wp2_with fail
  go_ret
  exact ⟨_, rfl, HO.out⟩
set_option maxHeartbeats 400000 in
theorem Writes_any (x : In) (w : World) : Calls Tryz.prog 24 #[x.v] w (RetInts w (wrOf x)) := by
  have HS := Lib.hid (sh_rw x.op).2
  have HS2 := Lib.hid (short97 x (sh_strings x.op).2)
  go_enter Tryz.func24, Tryz.ntmps24
  go_wp2_with fail
  refine (shape_any _ _).mono ?_
  rintro e w1 ⟨rfl, hb⟩
  have hx1 := (BoxI.new w x).next hb
  have HB := Lib.hid (bStart hb)
  have hz : w.heap.size < w1.heap.size := by have := hb.size; simp at this; omega
  clear hb
  obtain ⟨q0, q1, q2, q3, q4, q5⟩ := BoxI.cells hx1
  clear hx1
  go_wp2_with fail
  refine (Registers_any _ _ _ HS.out.1 HS.out.2 HS2.out).mono ?_
  rintro e w2 ⟨v, rfl, ho⟩
  have HO := Lib.hid (ho.later (HB.out.alloc (Nat.le_of_lt hz) _))
  clear ho
  go_wp2_with fail
  go_ret
  exact ⟨_, rfl, HO.out⟩
end
end Go.Proofs.YtbipeakinmbdiaaGreatDoor
